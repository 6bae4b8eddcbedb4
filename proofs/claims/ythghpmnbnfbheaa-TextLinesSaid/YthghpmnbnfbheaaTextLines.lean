/- The walk of the law TextLines answers true, whatever the numbers. -/
import Derived.Test.YthghpmnbnfbheaaTextAwake
import Derived.Test.YthghpmnbnfbheaaSeqLow
import Derived.Test.YthghpmnbnfbheaaTextLinesP
import Derived.WalkSpells
namespace Go.Proofs.Ythghpmnbnfbheaa.SeqS
open Go.RowKit Go.Shelf Go.Proofs.Ythghpmnbnfbheaa.SeqM Go.Proofs.Ythghpmnbnfbheaa.PRef Go.Proofs.YthghpmnbnfbheaaW.PrintWords Go.Proofs.Ythghpmnbnfbheaa.Lines
attribute [local go_sem] Oper.semAt_some
set_option linter.unusedVariables false
set_option linter.unusedSimpArgs false
theorem drewB (w : World) : Below w.heap.size w w.drew := ⟨rfl, rfl, rfl, Nat.le_refl _, fun _ _ => rfl⟩
set_option maxRecDepth 100000 in
theorem low_at (x : Int) (n r : Nat) (w : World) (h : wrap64 ((IntKind.u64.wrap x).tmod n) = (r : Int)) (h0 : 0 < n) (h1 : n < 100000) : Calls Try.prog 12 #[.int .i64 x, .int .i64 n] w fun e w' => e = .returned (.int .i64 r) ∧ w' = w := by
  have HR := Lib.hid h
  clear h
  go_enter Try.func12, Try.ntmps12
  go_wp2
  go_ret
  exact ⟨SeqI.ret_int HR.out, rfl⟩
theorem great_u8 (r : Nat) (h : r < 26) : IntKind.u8.wrap (IntKind.i64.wrap (65 + (r : Int))) = ((Text.great r).toNat : Int) := by
  have e : ∀ r : Nat, r < 26 → IntKind.u8.wrap (IntKind.i64.wrap (65 + (r : Int))) = ((Text.great r).toNat : Int) := by decide
  exact e r h
/-- The letter's number, on its way. -/
structure Nums (r : Nat) (a u : Int) (g : UInt8) : Prop where
  add : IntKind.i64.wrap (65 + (r : Int)) = a
  byte : IntKind.u8.wrap a = u
  val : u = (g.toNat : Int)
  let_ : g = Text.great r
theorem nums_of (r : Nat) (h : r < 26) : ∃ a u g, Nums r a u g := ⟨_, _, _, rfl, rfl, great_u8 r h, rfl⟩
theorem conv_one {u : Int} {g : UInt8} (hu : u = (g.toNat : Int)) : ∀ (W : World) (b : Nat), W.cell? ⟨b, 0, none⟩ = some (.int .u8 u) → Sem.run Try.prog (convert 30 9 (.slice (some ⟨b, 0, none⟩) 1 1)) W = .ok (.string ⟨#[g]⟩) W := by
  intro W b hc
  exact run_convert_bytes_back W 30 9 5 ⟨b, 0, none⟩ 1 [g] Try.underlying30 Try.underlying5 Try.underlying9 (fun j hj => by
    have hj0 : j = 0 := by simp at hj; omega
    subst hj0
    show W.cell? ⟨b, 0, none⟩ = _
    rw [hc, hu]
    rfl)
theorem line_one (g : UInt8) : ∀ W : World, (Op.stringOp .add ⟨#[g]⟩ ⟨#[10]⟩).run Try.prog W = .ok (.string ⟨#[g, 10]⟩) W := fun W => run_string_add W ⟨#[g]⟩ ⟨#[10]⟩ (by show (((1 : Nat) : Int)) ≤ 8388608; decide) (by decide)
theorem line_add (l m : List UInt8) (hl : l.length ≤ 20) (hm : m.length ≤ 20) : ∀ W : World, (Op.stringOp .add ⟨l.toArray⟩ ⟨m.toArray⟩).run Try.prog W = .ok (.string ⟨(l ++ m).toArray⟩) W := fun W => by
  have h1 : (⟨l.toArray⟩ : ByteArray).size = l.length := by simp [ByteArray.size]
  have h2 : (⟨m.toArray⟩ : ByteArray).size = m.length := by simp [ByteArray.size]
  rw [run_string_add W ⟨l.toArray⟩ ⟨m.toArray⟩ (by rw [h1]; omega) (by rw [h2]; omega)]
  have e : (⟨l.toArray⟩ : ByteArray) ++ ⟨m.toArray⟩ = ⟨(l ++ m).toArray⟩ := by
    apply ByteArray.ext
    rw [ByteArray.data_append]
    simp
  rw [e]
def fiveBlock : Obj := Obj.cells #[Value.string ⟨#[97, 10]⟩, Value.string ⟨#[98, 10]⟩, Value.string ⟨#[99, 10]⟩, Value.string ⟨#[100, 10]⟩, Value.string ⟨#[101, 10]⟩] 9 (0, 0)
theorem five_alloc (w : World) : (w.alloc (Obj.cells #[Value.string ⟨#[97, 10]⟩, Value.string ⟨#[98, 10]⟩, Value.string ⟨#[99, 10]⟩, Value.string ⟨#[100, 10]⟩, Value.string ⟨#[101, 10]⟩] 9)).heap[w.heap.size]? = some fiveBlock := by
  show (w.heap.push _)[w.heap.size]? = _
  simp [fiveBlock]
theorem five_two {w w1 : World} {o o' : Obj} (hb : Hid (Below w.heap.size w w1)) (hl : Hid (w1.heap[w.heap.size]? = some fiveBlock)) :
    Hid (Below w.heap.size w ((w1.alloc o).alloc o').drew) ∧ Hid (((w1.alloc o).alloc o').drew.heap[w.heap.size]? = some fiveBlock) := by
  have h1 : Below w1.heap.size w1 ((w1.alloc o).alloc o').drew := ((below_alloc (below_alloc (Below.refl _ _) _) _).trans (drewB _ |>.mono (by simp <;> omega)))
  have hlt : w.heap.size < w1.heap.size := by
    have := hl.out
    exact (Array.getElem?_eq_some_iff.1 this).1
  exact ⟨Lib.hid (hb.out.trans (h1.mono hb.out.size)), Lib.hid ((h1.block _ hlt).trans hl.out)⟩
theorem tlines_far_pure (rx ry : Nat) (gx gy : UInt8) (lx : rx < 26) (ly : ry < 26) (hx : gx = Text.great rx) (hy : gy = Text.great ry) : Text.merge ⟨#[97, 10, 98, 10, 99, 10, 100, 10, 101, 10]⟩ ⟨#[97, 10, gx, 10, 99, 10, 100, 10, 101, 10]⟩ ⟨#[97, 10, 98, 10, 99, 10, gy, 10, 101, 10]⟩ = some ⟨#[97, 10, gx, 10, 99, 10, gy, 10, 101, 10]⟩ := by
  subst hx hy
  have h := Text.far_all
  have h1 := List.all_eq_true.1 (List.all_eq_true.1 h rx (List.mem_range.2 lx)) ry (List.mem_range.2 ly)
  exact of_decide_eq_true h1
set_option maxHeartbeats 8000000 in
set_option maxRecDepth 100000 in
theorem tlines_far (x y : Int) (w : World) : Calls Try.prog 6 #[.bool true, .int .i64 x, .int .i64 y] w fun e w' => e = .returned (.bool true) ∧ Below w.heap.size w w' := by
  obtain ⟨rx, hx, lx⟩ := SeqI.low_num x 26 (by omega) (by omega)
  obtain ⟨ry, hy, ly⟩ := SeqI.low_num y 26 (by omega) (by omega)
  obtain ⟨ax, ux, gx, ⟨x1, x2, x3, x4⟩⟩ := nums_of rx lx
  obtain ⟨ay, uy, gy, ⟨y1, y2, y3, y4⟩⟩ := nums_of ry ly
  have cx := conv_one x3
  have cy := conv_one y3
  have dx := line_one gx
  have dy := line_one gy
  have HM := Lib.hid (tlines_far_pure rx ry gx gy lx ly x4 y4)
  clear x3 y3 x4 y4
  have HX := Lib.hid hx
  have HY := Lib.hid hy
  clear hx hy
  go_enter Try.func6, Try.ntmps6
  go_upto_region 2 with fail
  go_cut [8, 9] (fun v8 v9 W => v8 = .string ⟨#[gx, 10]⟩ ∧ v9 = .string ⟨#[gy, 10]⟩ ∧ Hid (Below w.heap.size w W) ∧ Hid (W.heap[w.heap.size]? = some fiveBlock))
  case first =>
    obtain ⟨w1, HCB, HCL, hw1⟩ : ∃ w1, Hid (Below w.heap.size w w1) ∧ Hid (w1.heap[w.heap.size]? = some fiveBlock) ∧ (w.alloc (Obj.cells #[Value.string ⟨#[97, 10]⟩, Value.string ⟨#[98, 10]⟩, Value.string ⟨#[99, 10]⟩, Value.string ⟨#[100, 10]⟩, Value.string ⟨#[101, 10]⟩] 9)) = w1 := ⟨_, Lib.hid (below_alloc (Below.refl _ _) _), Lib.hid (five_alloc w), rfl⟩
    rw [hw1]
    clear hw1
    go_region_with (first
      | (go_at_call_of 12 x; refine (low_at x 26 rx _ HX.out (by omega) (by omega)).mono ?_; rintro e w2 ⟨rfl, rfl⟩)
      | (go_at_call_of 12 y; refine (low_at y 26 ry _ HY.out (by omega) (by omega)).mono ?_; rintro e w2 ⟨rfl, rfl⟩))
    all_goals
      go_wp2_with fail
      go_meet
      exact ⟨rfl, rfl, five_two HCB HCL⟩
  case rest =>
    obtain ⟨rfl, rfl, HB, HL⟩ := hcut
    clear cx cy dx dy x1 x2 y1 y2 HX HY
    go_wp2_with fail
    go_loopg [11, 12, 13, 14, 15, 16, 17] 5 (fun g v11 v12 v13 v14 v15 v16 v17 w' => Hid (Below wc.heap.size wc w') ∧ ((v15 = .int .i64 0 ∧ g = 5 ∧ v11 = .string ⟨#[]⟩ ∧ v12 = .string ⟨#[]⟩ ∧ v13 = .string ⟨#[]⟩ ∧ v14 = .string ⟨#[]⟩) ∨ (v15 = .int .i64 1 ∧ g = 4 ∧ v11 = .string ⟨#[97, 10]⟩ ∧ v12 = .string ⟨#[97, 10]⟩ ∧ v13 = .string ⟨#[97, 10]⟩ ∧ v14 = .string ⟨#[97, 10]⟩) ∨ (v15 = .int .i64 2 ∧ g = 3 ∧ v11 = .string ⟨#[97, 10, 98, 10]⟩ ∧ v12 = .string ⟨#[97, 10, gx, 10]⟩ ∧ v13 = .string ⟨#[97, 10, 98, 10]⟩ ∧ v14 = .string ⟨#[97, 10, gx, 10]⟩) ∨ (v15 = .int .i64 3 ∧ g = 2 ∧ v11 = .string ⟨#[97, 10, 98, 10, 99, 10]⟩ ∧ v12 = .string ⟨#[97, 10, gx, 10, 99, 10]⟩ ∧ v13 = .string ⟨#[97, 10, 98, 10, 99, 10]⟩ ∧ v14 = .string ⟨#[97, 10, gx, 10, 99, 10]⟩) ∨ (v15 = .int .i64 4 ∧ g = 1 ∧ v11 = .string ⟨#[97, 10, 98, 10, 99, 10, 100, 10]⟩ ∧ v12 = .string ⟨#[97, 10, gx, 10, 99, 10, 100, 10]⟩ ∧ v13 = .string ⟨#[97, 10, 98, 10, 99, 10, gy, 10]⟩ ∧ v14 = .string ⟨#[97, 10, gx, 10, 99, 10, gy, 10]⟩) ∨ (v15 = .int .i64 5 ∧ g = 0 ∧ v11 = .string ⟨#[97, 10, 98, 10, 99, 10, 100, 10, 101, 10]⟩ ∧ v12 = .string ⟨#[97, 10, gx, 10, 99, 10, 100, 10, 101, 10]⟩ ∧ v13 = .string ⟨#[97, 10, 98, 10, 99, 10, gy, 10, 101, 10]⟩ ∧ v14 = .string ⟨#[97, 10, gx, 10, 99, 10, gy, 10, 101, 10]⟩)))
    case atStart => exact ⟨Lib.hid (Below.refl _ _), .inl ⟨rfl, rfl, rfl, rfl, rfl, rfl⟩⟩
    case round =>
      obtain ⟨HW, hrel⟩ := hrel
      have hg : wr.heap[w.heap.size]? = some fiveBlock := (HW.out.block _ (Array.getElem?_eq_some_iff.1 HL.out).1).trans HL.out
      rcases hrel with ⟨rfl, rfl, rfl, rfl, rfl, rfl⟩ | ⟨rfl, rfl, rfl, rfl, rfl, rfl⟩ | ⟨rfl, rfl, rfl, rfl, rfl, rfl⟩ | ⟨rfl, rfl, rfl, rfl, rfl, rfl⟩ | ⟨rfl, rfl, rfl, rfl, rfl, rfl⟩ | ⟨rfl, rfl, rfl, rfl, rfl, rfl⟩
      · have hc : wr.cell? ⟨w.heap.size, 0, none⟩ = some (.string ⟨#[97, 10]⟩) := by simp [World.cell?, hg, fiveBlock]
        have a0 := line_add [] [97, 10] (by show (0 : Nat) ≤ 20; omega) (by show (2 : Nat) ≤ 20; omega)
        simp only [List.cons_append, List.nil_append] at a0
        clear hg
        go_wp2_with fail
        go_quiet (fail)
        go_wp2_with fail
        go_roundg 4
        case measure => omega
        case rel => exact ⟨Lib.hid (HW.out.trans ((pw_below_drewN (Below.refl _ _) _).mono HW.out.size)), .inr (.inl ⟨rfl, rfl, rfl, rfl, rfl, rfl⟩)⟩
      · have hc : wr.cell? ⟨w.heap.size, 1, none⟩ = some (.string ⟨#[98, 10]⟩) := by simp [World.cell?, hg, fiveBlock]
        have a0 := line_add [97, 10] [98, 10] (by show (2 : Nat) ≤ 20; omega) (by show (2 : Nat) ≤ 20; omega)
        simp only [List.cons_append, List.nil_append] at a0
        have a1 := line_add [97, 10] [gx, 10] (by show (2 : Nat) ≤ 20; omega) (by show (2 : Nat) ≤ 20; omega)
        simp only [List.cons_append, List.nil_append] at a1
        clear hg
        go_wp2_with fail
        go_quiet (fail)
        go_wp2_with fail
        go_roundg 3
        case measure => omega
        case rel => exact ⟨Lib.hid (HW.out.trans ((pw_below_drewN (Below.refl _ _) _).mono HW.out.size)), .inr (.inr (.inl ⟨rfl, rfl, rfl, rfl, rfl, rfl⟩))⟩
      · have hc : wr.cell? ⟨w.heap.size, 2, none⟩ = some (.string ⟨#[99, 10]⟩) := by simp [World.cell?, hg, fiveBlock]
        have a0 := line_add [97, 10, 98, 10] [99, 10] (by show (4 : Nat) ≤ 20; omega) (by show (2 : Nat) ≤ 20; omega)
        simp only [List.cons_append, List.nil_append] at a0
        have a1 := line_add [97, 10, gx, 10] [99, 10] (by show (4 : Nat) ≤ 20; omega) (by show (2 : Nat) ≤ 20; omega)
        simp only [List.cons_append, List.nil_append] at a1
        clear hg
        go_wp2_with fail
        go_quiet (fail)
        go_wp2_with fail
        go_roundg 2
        case measure => omega
        case rel => exact ⟨Lib.hid (HW.out.trans ((pw_below_drewN (Below.refl _ _) _).mono HW.out.size)), .inr (.inr (.inr (.inl ⟨rfl, rfl, rfl, rfl, rfl, rfl⟩)))⟩
      · have hc : wr.cell? ⟨w.heap.size, 3, none⟩ = some (.string ⟨#[100, 10]⟩) := by simp [World.cell?, hg, fiveBlock]
        have a0 := line_add [97, 10, 98, 10, 99, 10] [100, 10] (by show (6 : Nat) ≤ 20; omega) (by show (2 : Nat) ≤ 20; omega)
        simp only [List.cons_append, List.nil_append] at a0
        have a1 := line_add [97, 10, gx, 10, 99, 10] [100, 10] (by show (6 : Nat) ≤ 20; omega) (by show (2 : Nat) ≤ 20; omega)
        simp only [List.cons_append, List.nil_append] at a1
        have a2 := line_add [97, 10, 98, 10, 99, 10] [gy, 10] (by show (6 : Nat) ≤ 20; omega) (by show (2 : Nat) ≤ 20; omega)
        simp only [List.cons_append, List.nil_append] at a2
        have a3 := line_add [97, 10, gx, 10, 99, 10] [gy, 10] (by show (6 : Nat) ≤ 20; omega) (by show (2 : Nat) ≤ 20; omega)
        simp only [List.cons_append, List.nil_append] at a3
        clear hg
        go_wp2_with fail
        go_quiet (fail)
        go_wp2_with fail
        go_roundg 1
        case measure => omega
        case rel => exact ⟨Lib.hid (HW.out.trans ((pw_below_drewN (Below.refl _ _) _).mono HW.out.size)), .inr (.inr (.inr (.inr (.inl ⟨rfl, rfl, rfl, rfl, rfl, rfl⟩))))⟩
      · have hc : wr.cell? ⟨w.heap.size, 4, none⟩ = some (.string ⟨#[101, 10]⟩) := by simp [World.cell?, hg, fiveBlock]
        have a0 := line_add [97, 10, 98, 10, 99, 10, 100, 10] [101, 10] (by show (8 : Nat) ≤ 20; omega) (by show (2 : Nat) ≤ 20; omega)
        simp only [List.cons_append, List.nil_append] at a0
        have a1 := line_add [97, 10, gx, 10, 99, 10, 100, 10] [101, 10] (by show (8 : Nat) ≤ 20; omega) (by show (2 : Nat) ≤ 20; omega)
        simp only [List.cons_append, List.nil_append] at a1
        have a2 := line_add [97, 10, 98, 10, 99, 10, gy, 10] [101, 10] (by show (8 : Nat) ≤ 20; omega) (by show (2 : Nat) ≤ 20; omega)
        simp only [List.cons_append, List.nil_append] at a2
        have a3 := line_add [97, 10, gx, 10, 99, 10, gy, 10] [101, 10] (by show (8 : Nat) ≤ 20; omega) (by show (2 : Nat) ≤ 20; omega)
        simp only [List.cons_append, List.nil_append] at a3
        clear hg
        go_wp2_with fail
        go_quiet (fail)
        go_wp2_with fail
        go_roundg 0
        case measure => omega
        case rel => exact ⟨Lib.hid (HW.out.trans ((pw_below_drewN (Below.refl _ _) _).mono HW.out.size)), .inr (.inr (.inr (.inr (.inr (⟨rfl, rfl, rfl, rfl, rfl, rfl⟩)))))⟩
      · clear hg
        go_wp2_with fail
        refine (tmerge_calls _ _ _ _ (by show (10 : Nat) ≤ 2000; omega) (by show (10 : Nat) ≤ 2000; omega) (by show (10 : Nat) ≤ 2000; omega)).mono ?_
        rintro e w4 ⟨rfl, hb⟩
        rw [HM.out]
        have HB4 := Lib.hid (HB.out.trans ((HW.out.trans (hb.mono HW.out.size)).mono HB.out.size))
        clear hb HW
        go_wp2_with fail
        refine (awake6 _).mono ?_
        rintro e w5 ⟨rfl, hb⟩
        have HB5 := Lib.hid (HB4.out.trans (hb.mono HB4.out.size))
        clear hb HB4
        go_wp2_with fail
        go_ret
        exact ⟨rfl, HB5.out⟩
theorem tlines_near_pure (rx ry : Nat) (gx gy : UInt8) (lx : rx < 26) (ly : ry < 26) (hx : gx = Text.great rx) (hy : gy = Text.great ry) : Text.merge ⟨#[97, 10, 98, 10, 99, 10, 100, 10, 101, 10]⟩ ⟨#[97, 10, gx, 10, 99, 10, 100, 10, 101, 10]⟩ ⟨#[97, 10, 98, 10, gy, 10, 100, 10, 101, 10]⟩ = none := by
  subst hx hy
  have h := Text.near_all
  have h1 := List.all_eq_true.1 (List.all_eq_true.1 h rx (List.mem_range.2 lx)) ry (List.mem_range.2 ly)
  exact of_decide_eq_true h1
set_option maxHeartbeats 8000000 in
set_option maxRecDepth 100000 in
theorem tlines_near (x y : Int) (w : World) : Calls Try.prog 6 #[.bool false, .int .i64 x, .int .i64 y] w fun e w' => e = .returned (.bool true) ∧ Below w.heap.size w w' := by
  obtain ⟨rx, hx, lx⟩ := SeqI.low_num x 26 (by omega) (by omega)
  obtain ⟨ry, hy, ly⟩ := SeqI.low_num y 26 (by omega) (by omega)
  obtain ⟨ax, ux, gx, ⟨x1, x2, x3, x4⟩⟩ := nums_of rx lx
  obtain ⟨ay, uy, gy, ⟨y1, y2, y3, y4⟩⟩ := nums_of ry ly
  have cx := conv_one x3
  have cy := conv_one y3
  have dx := line_one gx
  have dy := line_one gy
  have HM := Lib.hid (tlines_near_pure rx ry gx gy lx ly x4 y4)
  clear x3 y3 x4 y4
  have HX := Lib.hid hx
  have HY := Lib.hid hy
  clear hx hy
  go_enter Try.func6, Try.ntmps6
  go_upto_region 2 with fail
  go_cut [8, 9] (fun v8 v9 W => v8 = .string ⟨#[gx, 10]⟩ ∧ v9 = .string ⟨#[gy, 10]⟩ ∧ Hid (Below w.heap.size w W) ∧ Hid (W.heap[w.heap.size]? = some fiveBlock))
  case first =>
    obtain ⟨w1, HCB, HCL, hw1⟩ : ∃ w1, Hid (Below w.heap.size w w1) ∧ Hid (w1.heap[w.heap.size]? = some fiveBlock) ∧ (w.alloc (Obj.cells #[Value.string ⟨#[97, 10]⟩, Value.string ⟨#[98, 10]⟩, Value.string ⟨#[99, 10]⟩, Value.string ⟨#[100, 10]⟩, Value.string ⟨#[101, 10]⟩] 9)) = w1 := ⟨_, Lib.hid (below_alloc (Below.refl _ _) _), Lib.hid (five_alloc w), rfl⟩
    rw [hw1]
    clear hw1
    go_region_with (first
      | (go_at_call_of 12 x; refine (low_at x 26 rx _ HX.out (by omega) (by omega)).mono ?_; rintro e w2 ⟨rfl, rfl⟩)
      | (go_at_call_of 12 y; refine (low_at y 26 ry _ HY.out (by omega) (by omega)).mono ?_; rintro e w2 ⟨rfl, rfl⟩))
    all_goals
      go_wp2_with fail
      go_meet
      exact ⟨rfl, rfl, five_two HCB HCL⟩
  case rest =>
    obtain ⟨rfl, rfl, HB, HL⟩ := hcut
    clear cx cy dx dy x1 x2 y1 y2 HX HY
    go_wp2_with fail
    go_loopg [11, 12, 13, 14, 15, 16, 17] 5 (fun g v11 v12 v13 v14 v15 v16 v17 w' => Hid (Below wc.heap.size wc w') ∧ ((v15 = .int .i64 0 ∧ g = 5 ∧ v11 = .string ⟨#[]⟩ ∧ v12 = .string ⟨#[]⟩ ∧ v13 = .string ⟨#[]⟩ ∧ v14 = .string ⟨#[]⟩) ∨ (v15 = .int .i64 1 ∧ g = 4 ∧ v11 = .string ⟨#[97, 10]⟩ ∧ v12 = .string ⟨#[97, 10]⟩ ∧ v13 = .string ⟨#[97, 10]⟩ ∧ v14 = .string ⟨#[97, 10]⟩) ∨ (v15 = .int .i64 2 ∧ g = 3 ∧ v11 = .string ⟨#[97, 10, 98, 10]⟩ ∧ v12 = .string ⟨#[97, 10, gx, 10]⟩ ∧ v13 = .string ⟨#[97, 10, 98, 10]⟩ ∧ v14 = .string ⟨#[97, 10, gx, 10]⟩) ∨ (v15 = .int .i64 3 ∧ g = 2 ∧ v11 = .string ⟨#[97, 10, 98, 10, 99, 10]⟩ ∧ v12 = .string ⟨#[97, 10, gx, 10, 99, 10]⟩ ∧ v13 = .string ⟨#[97, 10, 98, 10, gy, 10]⟩ ∧ v14 = .string ⟨#[97, 10, gx, 10, gy, 10]⟩) ∨ (v15 = .int .i64 4 ∧ g = 1 ∧ v11 = .string ⟨#[97, 10, 98, 10, 99, 10, 100, 10]⟩ ∧ v12 = .string ⟨#[97, 10, gx, 10, 99, 10, 100, 10]⟩ ∧ v13 = .string ⟨#[97, 10, 98, 10, gy, 10, 100, 10]⟩ ∧ v14 = .string ⟨#[97, 10, gx, 10, gy, 10, 100, 10]⟩) ∨ (v15 = .int .i64 5 ∧ g = 0 ∧ v11 = .string ⟨#[97, 10, 98, 10, 99, 10, 100, 10, 101, 10]⟩ ∧ v12 = .string ⟨#[97, 10, gx, 10, 99, 10, 100, 10, 101, 10]⟩ ∧ v13 = .string ⟨#[97, 10, 98, 10, gy, 10, 100, 10, 101, 10]⟩ ∧ v14 = .string ⟨#[97, 10, gx, 10, gy, 10, 100, 10, 101, 10]⟩)))
    case atStart => exact ⟨Lib.hid (Below.refl _ _), .inl ⟨rfl, rfl, rfl, rfl, rfl, rfl⟩⟩
    case round =>
      obtain ⟨HW, hrel⟩ := hrel
      have hg : wr.heap[w.heap.size]? = some fiveBlock := (HW.out.block _ (Array.getElem?_eq_some_iff.1 HL.out).1).trans HL.out
      rcases hrel with ⟨rfl, rfl, rfl, rfl, rfl, rfl⟩ | ⟨rfl, rfl, rfl, rfl, rfl, rfl⟩ | ⟨rfl, rfl, rfl, rfl, rfl, rfl⟩ | ⟨rfl, rfl, rfl, rfl, rfl, rfl⟩ | ⟨rfl, rfl, rfl, rfl, rfl, rfl⟩ | ⟨rfl, rfl, rfl, rfl, rfl, rfl⟩
      · have hc : wr.cell? ⟨w.heap.size, 0, none⟩ = some (.string ⟨#[97, 10]⟩) := by simp [World.cell?, hg, fiveBlock]
        have a0 := line_add [] [97, 10] (by show (0 : Nat) ≤ 20; omega) (by show (2 : Nat) ≤ 20; omega)
        simp only [List.cons_append, List.nil_append] at a0
        clear hg
        go_wp2_with fail
        go_quiet (fail)
        go_wp2_with fail
        go_roundg 4
        case measure => omega
        case rel => exact ⟨Lib.hid (HW.out.trans ((pw_below_drewN (Below.refl _ _) _).mono HW.out.size)), .inr (.inl ⟨rfl, rfl, rfl, rfl, rfl, rfl⟩)⟩
      · have hc : wr.cell? ⟨w.heap.size, 1, none⟩ = some (.string ⟨#[98, 10]⟩) := by simp [World.cell?, hg, fiveBlock]
        have a0 := line_add [97, 10] [98, 10] (by show (2 : Nat) ≤ 20; omega) (by show (2 : Nat) ≤ 20; omega)
        simp only [List.cons_append, List.nil_append] at a0
        have a1 := line_add [97, 10] [gx, 10] (by show (2 : Nat) ≤ 20; omega) (by show (2 : Nat) ≤ 20; omega)
        simp only [List.cons_append, List.nil_append] at a1
        clear hg
        go_wp2_with fail
        go_quiet (fail)
        go_wp2_with fail
        go_roundg 3
        case measure => omega
        case rel => exact ⟨Lib.hid (HW.out.trans ((pw_below_drewN (Below.refl _ _) _).mono HW.out.size)), .inr (.inr (.inl ⟨rfl, rfl, rfl, rfl, rfl, rfl⟩))⟩
      · have hc : wr.cell? ⟨w.heap.size, 2, none⟩ = some (.string ⟨#[99, 10]⟩) := by simp [World.cell?, hg, fiveBlock]
        have a0 := line_add [97, 10, 98, 10] [99, 10] (by show (4 : Nat) ≤ 20; omega) (by show (2 : Nat) ≤ 20; omega)
        simp only [List.cons_append, List.nil_append] at a0
        have a1 := line_add [97, 10, gx, 10] [99, 10] (by show (4 : Nat) ≤ 20; omega) (by show (2 : Nat) ≤ 20; omega)
        simp only [List.cons_append, List.nil_append] at a1
        have a2 := line_add [97, 10, 98, 10] [gy, 10] (by show (4 : Nat) ≤ 20; omega) (by show (2 : Nat) ≤ 20; omega)
        simp only [List.cons_append, List.nil_append] at a2
        have a3 := line_add [97, 10, gx, 10] [gy, 10] (by show (4 : Nat) ≤ 20; omega) (by show (2 : Nat) ≤ 20; omega)
        simp only [List.cons_append, List.nil_append] at a3
        clear hg
        go_wp2_with fail
        go_quiet (fail)
        go_wp2_with fail
        go_roundg 2
        case measure => omega
        case rel => exact ⟨Lib.hid (HW.out.trans ((pw_below_drewN (Below.refl _ _) _).mono HW.out.size)), .inr (.inr (.inr (.inl ⟨rfl, rfl, rfl, rfl, rfl, rfl⟩)))⟩
      · have hc : wr.cell? ⟨w.heap.size, 3, none⟩ = some (.string ⟨#[100, 10]⟩) := by simp [World.cell?, hg, fiveBlock]
        have a0 := line_add [97, 10, 98, 10, 99, 10] [100, 10] (by show (6 : Nat) ≤ 20; omega) (by show (2 : Nat) ≤ 20; omega)
        simp only [List.cons_append, List.nil_append] at a0
        have a1 := line_add [97, 10, gx, 10, 99, 10] [100, 10] (by show (6 : Nat) ≤ 20; omega) (by show (2 : Nat) ≤ 20; omega)
        simp only [List.cons_append, List.nil_append] at a1
        have a2 := line_add [97, 10, 98, 10, gy, 10] [100, 10] (by show (6 : Nat) ≤ 20; omega) (by show (2 : Nat) ≤ 20; omega)
        simp only [List.cons_append, List.nil_append] at a2
        have a3 := line_add [97, 10, gx, 10, gy, 10] [100, 10] (by show (6 : Nat) ≤ 20; omega) (by show (2 : Nat) ≤ 20; omega)
        simp only [List.cons_append, List.nil_append] at a3
        clear hg
        go_wp2_with fail
        go_quiet (fail)
        go_wp2_with fail
        go_roundg 1
        case measure => omega
        case rel => exact ⟨Lib.hid (HW.out.trans ((pw_below_drewN (Below.refl _ _) _).mono HW.out.size)), .inr (.inr (.inr (.inr (.inl ⟨rfl, rfl, rfl, rfl, rfl, rfl⟩))))⟩
      · have hc : wr.cell? ⟨w.heap.size, 4, none⟩ = some (.string ⟨#[101, 10]⟩) := by simp [World.cell?, hg, fiveBlock]
        have a0 := line_add [97, 10, 98, 10, 99, 10, 100, 10] [101, 10] (by show (8 : Nat) ≤ 20; omega) (by show (2 : Nat) ≤ 20; omega)
        simp only [List.cons_append, List.nil_append] at a0
        have a1 := line_add [97, 10, gx, 10, 99, 10, 100, 10] [101, 10] (by show (8 : Nat) ≤ 20; omega) (by show (2 : Nat) ≤ 20; omega)
        simp only [List.cons_append, List.nil_append] at a1
        have a2 := line_add [97, 10, 98, 10, gy, 10, 100, 10] [101, 10] (by show (8 : Nat) ≤ 20; omega) (by show (2 : Nat) ≤ 20; omega)
        simp only [List.cons_append, List.nil_append] at a2
        have a3 := line_add [97, 10, gx, 10, gy, 10, 100, 10] [101, 10] (by show (8 : Nat) ≤ 20; omega) (by show (2 : Nat) ≤ 20; omega)
        simp only [List.cons_append, List.nil_append] at a3
        clear hg
        go_wp2_with fail
        go_quiet (fail)
        go_wp2_with fail
        go_roundg 0
        case measure => omega
        case rel => exact ⟨Lib.hid (HW.out.trans ((pw_below_drewN (Below.refl _ _) _).mono HW.out.size)), .inr (.inr (.inr (.inr (.inr (⟨rfl, rfl, rfl, rfl, rfl, rfl⟩)))))⟩
      · clear hg
        go_wp2_with fail
        refine (tmerge_calls _ _ _ _ (by show (10 : Nat) ≤ 2000; omega) (by show (10 : Nat) ≤ 2000; omega) (by show (10 : Nat) ≤ 2000; omega)).mono ?_
        rintro e w4 ⟨rfl, hb⟩
        rw [HM.out]
        have HB4 := Lib.hid (HB.out.trans ((HW.out.trans (hb.mono HW.out.size)).mono HB.out.size))
        clear hb HW
        go_wp2_with fail
        refine (awake6 _).mono ?_
        rintro e w5 ⟨rfl, hb⟩
        have HB5 := Lib.hid (HB4.out.trans (hb.mono HB4.out.size))
        clear hb HB4
        go_wp2_with fail
        go_ret
        exact ⟨rfl, HB5.out⟩
theorem tlines_law (far : Bool) (x y : Int) (w : World) (_ : (Lit.int .i64 x).wf = true) (_ : (Lit.int .i64 y).wf = true) : Calls Try.prog 6 #[.bool far, .int .i64 x, .int .i64 y] w fun e w' => e = .returned (.bool true) ∧ Below w.heap.size w w' := by
  cases far with
  | true => exact tlines_far x y w
  | false => exact tlines_near x y w
end Go.Proofs.Ythghpmnbnfbheaa.SeqS
