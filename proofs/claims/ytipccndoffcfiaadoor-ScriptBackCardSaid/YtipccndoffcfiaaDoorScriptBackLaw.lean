/- ScriptBack's law, as it is called. Printed by tools/scriptback.py. -/
import Derived.Test.YtipccndoffcfiaaDoorScriptBackP
namespace Go.Proofs.YtipccndoffcfiaaDoor.Script
open Go.RowKit Go.IntWalk Go.Proofs.YtipccndoffcfiaaDoor.PRef Go.Proofs.YtipccndoffcfiaaDoorW.PrintWords Go.Proofs.YtipccndoffcfiaaDoorW.PrintLast Go.Proofs.YtipccndoffcfiaaDoor.Rounds
attribute [local go_sem] Oper.semAt_some
set_option linter.unusedVariables false
set_option linter.unusedSimpArgs false
theorem parse_got (s : ByteArray) (hs : s.size ≤ 100000000) {a0 a1 a2 a3 a4 : Int} {es : List S47} {n : Nat} {r : Int} (hp : parseP s = ([a0, a1, a2, a3, a4], es, n, r)) : ∀ w, Env w → Calls Tryd.prog 14 #[.string s] w (ParseGot a0 a1 a2 a3 a4 es n r w) := fun w he => by
  have := parse_calls s w hs he
  rw [hp] at this
  exact this.mono fun _ _ h => got_of h
/-- A call of Print. -/
def PrintGot (a0 a1 a2 a3 a4 : Int) (es : List S47) (t : ByteArray) (g : Int) : Prop :=
  ∀ (w : World) (A : Option Addr) (c : Nat), Kd.C k47 w A es.length es ∧ es.length ≤ c → Env w → Calls Tryd.prog 20 #[.agg #[.int .i64 a0, .int .i64 a1, .int .i64 a2, .int .i64 a3, .int .i64 a4], .slice A es.length c] w fun e w' => e = .returned (.tuple #[.string t, .int .i64 g]) ∧ Below w.heap.size w w'
/-- A call of Parse. -/
def ParseOf (t : ByteArray) (a0 a1 a2 a3 a4 : Int) (es : List S47) (n : Nat) (r : Int) : Prop :=
  ∀ w, Env w → Calls Tryd.prog 14 #[.string t] w (ParseGot a0 a1 a2 a3 a4 es n r w)
theorem print_got (a0 a1 a2 a3 a4 : Int) (es : List S47) (hlim : es.length ≤ 1000000) (hok : ∀ e ∈ es, EvOk e) (hcs : ∀ n ∈ [a0, a1, a2, a3, a4], i64 n) :
    ∃ t g, PrintGot a0 a1 a2 a3 a4 es t g ∧ (g, t) = ((printP [a0, a1, a2, a3, a4] es).2, (printP [a0, a1, a2, a3, a4] es).1) ∧ ((¬ g = 0 ∧ t = ⟨#[]⟩) ∨ (g = 0 ∧ ParseOf t a0 a1 a2 a3 a4 es 0 0)) := by
  refine ⟨_, _, fun w A c hC he => print_calls a0 a1 a2 a3 a4 A c es w hC.1 hC.2 hlim hok hcs he, rfl, ?_⟩
  rcases lines_plain [a0, a1, a2, a3, a4] es with h | ⟨h, _⟩
  · exact .inl h
  · obtain ⟨h1, h2⟩ := print_read [a0, a1, a2, a3, a4] es rfl h
    exact .inr ⟨h, parse_got _ (by omega) h1⟩
/-- A text that is read: what is read, printed, read again. -/
theorem read_got (s : ByteArray) (hs : s.size ≤ 20000) : ∃ (a0 a1 a2 a3 a4 : Int) (es : List S47) (n : Nat) (r : Int), es.length ≤ 1000000 ∧ ParseOf s a0 a1 a2 a3 a4 es n r ∧ (¬ r = 0 ∨ r = 0 ∧ ∃ t g, PrintGot a0 a1 a2 a3 a4 es t g ∧ ((g = 3 ∧ t = ⟨#[]⟩) ∨ (g = 0 ∧ ParseOf t a0 a1 a2 a3 a4 es 0 0))) := by
  have hcs := parseP_cs s
  have hln := parseP_len s
  have hgd := parseP_good s
  have hag := again_print s
  rcases hP : parseP s with ⟨cs, es, n, r⟩
  rw [hP] at hcs hln hgd hag
  obtain ⟨a0, a1, a2, a3, a4, rfl⟩ := five cs hcs
  simp only at hln hgd hag
  refine ⟨a0, a1, a2, a3, a4, es, n, r, by omega, parse_got s (by omega) hP, ?_⟩
  by_cases hr : r = 0
  · obtain ⟨t, g, h1, h2, h3⟩ := print_got a0 a1 a2 a3 a4 es (by omega) (fun e he => good_ok (by omega) (hgd.2 e he)) (fun n hn => i64_badN (by
      have := List.any_eq_false.1 hgd.1 n hn
      simpa using this))
    refine .inr ⟨hr, t, g, h1, ?_⟩
    obtain ⟨e1, e2⟩ := Prod.mk.injEq .. ▸ h2
    rcases h3 with h3 | h3
    · rcases hag with h | h
      · exact absurd (e1.trans h) h3.1
      · exact .inl ⟨e1.trans h.1, h3.2⟩
    · exact .inr h3
  · exact .inl hr
theorem empty_got : ParseOf ⟨#[]⟩ 0 0 0 0 0 [] 0 0 := parse_got _ (by decide) rfl
set_option maxHeartbeats 8000000 in
set_option maxRecDepth 100000 in
theorem back_law (c0 c1 c2 c3 c4 : Int) (A : Option Addr) (cap : Nat) (es : List S47) (s : ByteArray) (w : World) (hcs : ∀ n ∈ [c0, c1, c2, c3, c4], i64 n) (hx : EvX w A cap es) (_ : s.size ≤ 140737488351232) (he : Env w) :
    Calls Tryd.prog 7 #[.agg #[.int .i64 c0, .int .i64 c1, .int .i64 c2, .int .i64 c3, .int .i64 c4], .slice A es.length cap, .string s] w fun e w' => e = .returned (.bool true) ∧ Below w.heap.size w w' := by
  have hb0 := below_push w (.cells #[.int .i64 c0, .int .i64 c1, .int .i64 c2, .int .i64 c3, .int .i64 c4] 28)
  have HX0 := Lib.hid (hx.below hb0)
  have HE0 := Lib.hid (he.below hb0)
  have HB0 := Lib.hid hb0
  have hC0 := ptrs_alloc w 0 28 [.int .i64 c0, .int .i64 c1, .int .i64 c2, .int .i64 c3, .int .i64 c4]
  have HC0 := Lib.hid hC0
  have HCS := Lib.hid hcs
  clear hb0 hx he hC0 hcs
  go_enter Tryd.func7, Tryd.ntmps7
  go_wp2_with fail
  refine (great_calls A cap es _ HX0.out).mono ?_
  rintro e w1 ⟨rfl, hb1⟩
  have HX1 := Lib.hid (HX0.out.below hb1)
  have HE1 := Lib.hid (HE0.out.below hb1)
  have HC1 := Lib.hid (HC0.out.below hb1)
  have HB1 := Lib.hid (then_below HB0.out hb1)
  clear hb1 HX0 HE0 HC0 HB0
  cases hg : greatP es with
  | true =>
    go_wp2_with fail
    refine (awake_calls _ HE1.out).mono ?_
    rintro e w2 ⟨rfl, hb⟩
    have HB2 := Lib.hid (then_below HB1.out hb)
    clear hb
    go_wp2_with fail
    go_ret
    exact ⟨rfl, HB2.out⟩
  | false =>
    obtain ⟨hl, hs⟩ := small_of hg
    have HS := Lib.hid hs
    clear hg hs
    by_cases hbig : (20000 : Int) < (s.size : Int)
    · have d1 : decide ((20000 : Int) < (s.size : Int)) = true := decide_eq_true hbig
      go_wp2_with fail
      refine (awake_calls _ HE1.out).mono ?_
      rintro e w2 ⟨rfl, hb⟩
      have HB2 := Lib.hid (then_below HB1.out hb)
      clear hb
      go_wp2_with fail
      go_ret
      exact ⟨rfl, HB2.out⟩
    · have d1 : decide ((20000 : Int) < (s.size : Int)) = false := decide_eq_false hbig
      obtain ⟨ks, hks⟩ := same_self es (by omega)
      have HKS := Lib.hid hks
      have hrg := read_got s (by omega)
      obtain ⟨t, r, hpr, _, hrd⟩ := print_got c0 c1 c2 c3 c4 es (by omega) (HX1.out.ok HS.out) HCS.out
      have HPR := Lib.hid hpr
      have HRG := Lib.hid hrg
      clear hks hpr hrg
      obtain ⟨x0, x1, x2, x3, x4, xf⟩ := blk_five HC1.out
      go_wp2_with fail
      refine (HPR.out w1 A cap ⟨HX1.out.1, HX1.out.2.1⟩ HE1.out).mono ?_
      rintro e w2 ⟨rfl, hb2⟩
      have HX2 := Lib.hid (HX1.out.below hb2)
      have HE2 := Lib.hid (HE1.out.below hb2)
      have HC2 := Lib.hid (HC1.out.below hb2)
      have HB2 := Lib.hid (then_below HB1.out hb2)
      clear hb2 x0 x1 x2 x3 x4 xf HX1 HE1 HC1 HB1 HS HPR
      rcases hrd with ⟨h1, rfl⟩ | ⟨rfl, hp1⟩
      · have dr : decide (r = 0) = false := decide_eq_false h1
        have HEt := HE2
        have HBt := HB2
        clear HX2 HC2
        obtain ⟨a0, a1, a2, a3, a4, es2, n2, r2, hl2, hp2, hr2⟩ := HRG.out
        have HP2 := Lib.hid hp2
        clear hp2 HRG
        obtain ⟨k2, hk2⟩ := same_self es2 hl2
        have HK2 := Lib.hid hk2
        clear hk2
        go_wp2_with fail
        refine (HP2.out _ HEt.out).mono ?_
        rintro e w5 ⟨A5, c5, rfl, ⟨b5, hb5, hr5⟩, hw5⟩
        have q5 := below_push w5 (.cells #[.int .i64 a0, .int .i64 a1, .int .i64 a2, .int .i64 a3, .int .i64 a4] 28)
        have HE5 := Lib.hid ((HEt.out.below hw5).below q5)
        have HB5 := Lib.hid (then_below (then_below HBt.out hw5) q5)
        have HR5 := Lib.hid (Kd.R_below hr5 q5)
        have dC := ptrs_alloc w5 0 28 [.int .i64 a0, .int .i64 a1, .int .i64 a2, .int .i64 a3, .int .i64 a4]
        have HC5 := Lib.hid dC
        obtain ⟨y0, y1, y2, y3, y4, yf⟩ := blk_five dC
        clear hw5 hr5 q5 dC HBt HEt HP2
        rcases hr2 with h2 | ⟨rfl, u, g, hpg, hu⟩
        · have dr2 : decide (r2 = 0) = false := decide_eq_false h2
          go_wp2_with fail
          refine (awake_calls _ HE5.out).mono ?_
          rintro e w6 ⟨rfl, hb6⟩
          have HB6 := Lib.hid (then_below HB5.out hb6)
          clear hb6
          go_wp2_with fail
          go_ret
          exact ⟨rfl, HB6.out⟩
        · have HPG := Lib.hid hpg
          clear hpg
          go_wp2_with fail
          refine (HPG.out _ A5 c5 (row_reads HR5.out) HE5.out).mono ?_
          rintro e w6 ⟨rfl, hb6⟩
          have HE6 := Lib.hid (HE5.out.below hb6)
          have HB6 := Lib.hid (then_below HB5.out hb6)
          have HR6 := Lib.hid (Kd.R_below HR5.out hb6)
          have HC6 := Lib.hid (HC5.out.below hb6)
          clear hb6 HPG HE5 HB5 HR5 HC5 y0 y1 y2 y3 y4 yf
          rcases hu with ⟨rfl, rfl⟩ | ⟨rfl, hp3⟩
          · go_wp2_with fail
            refine (empty_got _ HE6.out).mono ?_
            rintro e w7 ⟨A7, c7, rfl, ⟨b7, hb7, hr7⟩, hw7⟩
            have q7 := below_push w7 (.cells #[.int .i64 0, .int .i64 0, .int .i64 0, .int .i64 0, .int .i64 0] 28)
            have HE7 := Lib.hid ((HE6.out.below hw7).below q7)
            have HB7 := Lib.hid (then_below (then_below HB6.out hw7) q7)
            clear hw7 hr7 q7 HE6 HB6 HR6 HC6
            go_wp2_with fail
            refine (awake_calls _ HE7.out).mono ?_
            rintro e w8 ⟨rfl, hb8⟩
            have HB8 := Lib.hid (then_below HB7.out hb8)
            clear hb8
            go_wp2_with fail
            go_ret
            exact ⟨rfl, HB8.out⟩
          · have HP3 := Lib.hid hp3
            clear hp3
            go_wp2_with fail
            refine (HP3.out _ HE6.out).mono ?_
            rintro e w7 ⟨A7, c7, rfl, ⟨b7, hb7, hr7⟩, hw7⟩
            have q7 := below_push w7 (.cells #[.int .i64 a0, .int .i64 a1, .int .i64 a2, .int .i64 a3, .int .i64 a4] 28)
            have HE7 := Lib.hid ((HE6.out.below hw7).below q7)
            have HB7 := Lib.hid (then_below (then_below HB6.out hw7) q7)
            have HR7 := Lib.hid ((Kd.R_below (Kd.R_below HR6.out hw7) q7))
            have HS7 := Lib.hid (Kd.R_below hr7 q7)
            have hsz7 : w5.heap.size + 1 ≤ w7.heap.size := by
              have h5 := HC6.out.lt
              have h6 := hw7.size
              omega
            have cC := (HC6.out.below hw7).below q7
            have dC := ptrs_alloc w7 0 28 [.int .i64 a0, .int .i64 a1, .int .i64 a2, .int .i64 a3, .int .i64 a4]
            obtain ⟨x0, x1, x2, x3, x4, xf⟩ := blk_five cC
            obtain ⟨y0, y1, y2, y3, y4, yf⟩ := blk_five dC
            clear hw7 hr7 q7 HE6 HB6 HR6 HC6 HP3 cC dC
            go_wp2_with fail
            refine (cortegelaw0_SameEvents.calls k2 A7 c7 es2 A5 c5 es2 true _ (row_reads HS7.out).1 (row_reads HS7.out).2 (row_reads HR7.out).1 (row_reads HR7.out).2 HK2.out).mono ?_
            rintro e w8 ⟨rfl, hd8⟩
            have HE8 := Lib.hid (HE7.out.below (drawn0_below hd8))
            have HB8 := Lib.hid (then_below HB7.out (drawn0_below hd8))
            clear hd8 x0 x1 x2 x3 x4 xf y0 y1 y2 y3 y4 yf HR7 HS7 HE7 HB7
            go_wp2_with fail
            refine (awake_calls _ HE8.out).mono ?_
            rintro e w9 ⟨rfl, hb9⟩
            have HB9 := Lib.hid (then_below HB8.out hb9)
            clear hb9
            go_wp2_with fail
            go_ret
            exact ⟨rfl, HB9.out⟩
      · have HP1 := Lib.hid hp1
        clear hp1
        go_wp2_with fail
        refine (HP1.out _ HE2.out).mono ?_
        rintro e w3 ⟨A3, c3', rfl, ⟨b3, hb3, hr3⟩, hw3⟩
        have q3 := below_push w3 (.cells #[.int .i64 c0, .int .i64 c1, .int .i64 c2, .int .i64 c3, .int .i64 c4] 28)
        have HXx := Lib.hid ((HX2.out.below hw3).below q3)
        have HCx := Lib.hid ((HC2.out.below hw3).below q3)
        have HRx := Lib.hid (Kd.R_below hr3 q3)
        have HEx := Lib.hid ((HE2.out.below hw3).below q3)
        have HBx := Lib.hid (then_below (then_below HB2.out hw3) q3)
        have hsz3 : w.heap.size + 1 ≤ w3.heap.size := by
          have h5 := HC2.out.lt
          have h6 := hw3.size
          omega
        have dB := ptrs_alloc w3 0 28 [.int .i64 c0, .int .i64 c1, .int .i64 c2, .int .i64 c3, .int .i64 c4]
        obtain ⟨x0, x1, x2, x3, x4, xf⟩ := blk_five HCx.out
        obtain ⟨y0, y1, y2, y3, y4, yf⟩ := blk_five dB
        clear hr3 hw3 dB q3 HX2 HE2 HC2 HB2
        go_wp2_with fail
        refine (cortegelaw0_SameEvents.calls ks A cap es A3 c3' es true _ HXx.out.1 HXx.out.2.1 (row_reads HRx.out).1 (row_reads HRx.out).2 HKS.out).mono ?_
        rintro e wt ⟨rfl, hdt⟩
        have HEt := Lib.hid (HEx.out.below (drawn0_below hdt))
        have HBt := Lib.hid (then_below HBx.out (drawn0_below hdt))
        clear hdt x0 x1 x2 x3 x4 xf y0 y1 y2 y3 y4 yf HXx HCx HRx HEx HBx
        obtain ⟨a0, a1, a2, a3, a4, es2, n2, r2, hl2, hp2, hr2⟩ := HRG.out
        have HP2 := Lib.hid hp2
        clear hp2 HRG
        obtain ⟨k2, hk2⟩ := same_self es2 hl2
        have HK2 := Lib.hid hk2
        clear hk2
        go_wp2_with fail
        refine (HP2.out _ HEt.out).mono ?_
        rintro e w5 ⟨A5, c5, rfl, ⟨b5, hb5, hr5⟩, hw5⟩
        have q5 := below_push w5 (.cells #[.int .i64 a0, .int .i64 a1, .int .i64 a2, .int .i64 a3, .int .i64 a4] 28)
        have HE5 := Lib.hid ((HEt.out.below hw5).below q5)
        have HB5 := Lib.hid (then_below (then_below HBt.out hw5) q5)
        have HR5 := Lib.hid (Kd.R_below hr5 q5)
        have dC := ptrs_alloc w5 0 28 [.int .i64 a0, .int .i64 a1, .int .i64 a2, .int .i64 a3, .int .i64 a4]
        have HC5 := Lib.hid dC
        obtain ⟨y0, y1, y2, y3, y4, yf⟩ := blk_five dC
        clear hw5 hr5 q5 dC HBt HEt HP2
        rcases hr2 with h2 | ⟨rfl, u, g, hpg, hu⟩
        · have dr2 : decide (r2 = 0) = false := decide_eq_false h2
          go_wp2_with fail
          refine (awake_calls _ HE5.out).mono ?_
          rintro e w6 ⟨rfl, hb6⟩
          have HB6 := Lib.hid (then_below HB5.out hb6)
          clear hb6
          go_wp2_with fail
          go_ret
          exact ⟨rfl, HB6.out⟩
        · have HPG := Lib.hid hpg
          clear hpg
          go_wp2_with fail
          refine (HPG.out _ A5 c5 (row_reads HR5.out) HE5.out).mono ?_
          rintro e w6 ⟨rfl, hb6⟩
          have HE6 := Lib.hid (HE5.out.below hb6)
          have HB6 := Lib.hid (then_below HB5.out hb6)
          have HR6 := Lib.hid (Kd.R_below HR5.out hb6)
          have HC6 := Lib.hid (HC5.out.below hb6)
          clear hb6 HPG HE5 HB5 HR5 HC5 y0 y1 y2 y3 y4 yf
          rcases hu with ⟨rfl, rfl⟩ | ⟨rfl, hp3⟩
          · go_wp2_with fail
            refine (empty_got _ HE6.out).mono ?_
            rintro e w7 ⟨A7, c7, rfl, ⟨b7, hb7, hr7⟩, hw7⟩
            have q7 := below_push w7 (.cells #[.int .i64 0, .int .i64 0, .int .i64 0, .int .i64 0, .int .i64 0] 28)
            have HE7 := Lib.hid ((HE6.out.below hw7).below q7)
            have HB7 := Lib.hid (then_below (then_below HB6.out hw7) q7)
            clear hw7 hr7 q7 HE6 HB6 HR6 HC6
            go_wp2_with fail
            refine (awake_calls _ HE7.out).mono ?_
            rintro e w8 ⟨rfl, hb8⟩
            have HB8 := Lib.hid (then_below HB7.out hb8)
            clear hb8
            go_wp2_with fail
            go_ret
            exact ⟨rfl, HB8.out⟩
          · have HP3 := Lib.hid hp3
            clear hp3
            go_wp2_with fail
            refine (HP3.out _ HE6.out).mono ?_
            rintro e w7 ⟨A7, c7, rfl, ⟨b7, hb7, hr7⟩, hw7⟩
            have q7 := below_push w7 (.cells #[.int .i64 a0, .int .i64 a1, .int .i64 a2, .int .i64 a3, .int .i64 a4] 28)
            have HE7 := Lib.hid ((HE6.out.below hw7).below q7)
            have HB7 := Lib.hid (then_below (then_below HB6.out hw7) q7)
            have HR7 := Lib.hid ((Kd.R_below (Kd.R_below HR6.out hw7) q7))
            have HS7 := Lib.hid (Kd.R_below hr7 q7)
            have hsz7 : w5.heap.size + 1 ≤ w7.heap.size := by
              have h5 := HC6.out.lt
              have h6 := hw7.size
              omega
            have cC := (HC6.out.below hw7).below q7
            have dC := ptrs_alloc w7 0 28 [.int .i64 a0, .int .i64 a1, .int .i64 a2, .int .i64 a3, .int .i64 a4]
            obtain ⟨x0, x1, x2, x3, x4, xf⟩ := blk_five cC
            obtain ⟨y0, y1, y2, y3, y4, yf⟩ := blk_five dC
            clear hw7 hr7 q7 HE6 HB6 HR6 HC6 HP3 cC dC
            go_wp2_with fail
            refine (cortegelaw0_SameEvents.calls k2 A7 c7 es2 A5 c5 es2 true _ (row_reads HS7.out).1 (row_reads HS7.out).2 (row_reads HR7.out).1 (row_reads HR7.out).2 HK2.out).mono ?_
            rintro e w8 ⟨rfl, hd8⟩
            have HE8 := Lib.hid (HE7.out.below (drawn0_below hd8))
            have HB8 := Lib.hid (then_below HB7.out (drawn0_below hd8))
            clear hd8 x0 x1 x2 x3 x4 xf y0 y1 y2 y3 y4 yf HR7 HS7 HE7 HB7
            go_wp2_with fail
            refine (awake_calls _ HE8.out).mono ?_
            rintro e w9 ⟨rfl, hb9⟩
            have HB9 := Lib.hid (then_below HB8.out hb9)
            clear hb9
            go_wp2_with fail
            go_ret
            exact ⟨rfl, HB9.out⟩
end Go.Proofs.YtipccndoffcfiaaDoor.Script
