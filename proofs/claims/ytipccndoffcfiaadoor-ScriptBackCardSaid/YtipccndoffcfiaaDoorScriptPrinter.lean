/- script.printer's line, numbers and event, as they are called. -/
import Derived.Test.YtipccndoffcfiaaDoorScriptBuild
import Derived.Test.YtipccndoffcfiaaDoorScriptD
namespace Go.Proofs.YtipccndoffcfiaaDoor.Script
open Go.RowKit Go.Proofs.YtipccndoffcfiaaDoor.PRef Go.Proofs.YtipccndoffcfiaaDoorW.PrintWords Go.Proofs.YtipccndoffcfiaaDoorW.PrintLast Go.Proofs.YtipccndoffcfiaaDoor.SeqM
attribute [local go_sem] Oper.semAt_some
set_option linter.unusedVariables false
set_option linter.unusedSimpArgs false
theorem TX.keep {W W' : World} {A : Option Addr} {c : Nat} {l : List ByteArray} (h : TX W A c l) (hk : ∀ ad, A = some ad → ad.block < W.heap.size → W'.heap[ad.block]? = W.heap[ad.block]?) : TX W' A c l := by
  refine ⟨Kd.C_of_reads (d := ByteArray.empty) ⟨rfl, (Kd.reads_of_C (d := ByteArray.empty) h.1).2.1, fun hn => ?_⟩, h.2⟩
  obtain ⟨ad, e, _, _⟩ := h.at_ 0 hn
  refine ⟨ad, e, fun j hj => ?_⟩
  obtain ⟨ad', e', hlt, hc⟩ := h.at_ j hj
  rw [e] at e'
  cases e'
  have hb : (ad.add j).block = ad.block := by unfold Addr.add; split <;> rfl
  have h0 := hk ad e (by rwa [hb] at hlt)
  have : W'.cell? (ad.add j) = W.cell? (ad.add j) := by simp only [World.cell?, hb, h0]
  rw [this, hc]
  simp [rdOf, List.getD_eq_getElem?_getD, hj]
/-- A writer's work. -/
structure Wr (b : Nat) (v v' : Value) (l' : List UInt8) (bad : Bool) (w w' : World) : Prop where
  pr : Pr w' b (.pointer (some ⟨b, 0, none⟩)) v' l' bad
  turn : TurnM (PrM b v) w w'
  own : v'.ownBlock = v.ownBlock ∨ ∃ g, v'.ownBlock = some g ∧ w.heap.size ≤ g
theorem wr_of {b : Nat} {v : Value} {l' : List UInt8} {bad : Bool} {w w' : World} (h : WrPost b v l' bad w w') : ∃ v', Wr b v v' l' bad w w' := by
  obtain ⟨v', h1, h2, h3⟩ := h
  exact ⟨v', h1, h2, h3⟩
theorem Wr.trans {b : Nat} {v v1 v2 : Value} {l1 l2 : List UInt8} {bad bad2 : Bool} {w w1 w2 : World} (h : Wr b v v1 l1 bad w w1) (k : Wr b v1 v2 l2 bad2 w1 w2) : Wr b v v2 l2 bad2 w w2 := by
  have hs := h.turn.size
  refine ⟨k.pr, h.turn.on k.turn (fun i hi hm => ?_), ?_⟩
  · rcases hm with e | e
    · exact .inl e
    · rcases h.own with e1 | ⟨g, e1, hg⟩
      · exact .inr (by rw [← e1]; exact e)
      · rw [e1] at e
        cases e
        omega
  · rcases k.own with e | ⟨g, e, hg⟩
    · rw [e]
      exact h.own
    · exact .inr ⟨g, e, by omega⟩
theorem Wr.then_below {b : Nat} {v v1 : Value} {l1 : List UInt8} {bad : Bool} {w w1 w2 : World} (h : Wr b v v1 l1 bad w w1) (hb : Below w1.heap.size w1 w2) : Wr b v v1 l1 bad w w2 :=
  ⟨h.pr.below hb, h.turn.trans (TurnM.of_below hb), h.own⟩
theorem Wr.below {b : Nat} {v v1 : Value} {l1 : List UInt8} {bad : Bool} {w w1 : World} (h : Wr b v v1 l1 bad w w1) (n : Nat) (hn : n ≤ w.heap.size) (hb : n ≤ b) (hv : ∀ g, v.ownBlock = some g → n ≤ g) : Below n w w1 :=
  h.turn.below hn (fun k _ hm => hm.elim (fun e => by omega) (fun e => hv k e))
/-- What a row's block is not. -/
def Far (A : Option Addr) (b : Nat) (v : Value) : Prop := ∀ ad, A = some ad → ad.block ≠ b ∧ v.ownBlock ≠ some ad.block
theorem TX.wr {W W' : World} {A : Option Addr} {c : Nat} {l : List ByteArray} {b : Nat} {v v' : Value} {l' : List UInt8} {bad : Bool} (h : TX W A c l) (hf : Far A b v) (k : Wr b v v' l' bad W W') : TX W' A c l :=
  h.keep fun ad e hlt => k.turn.block ad.block hlt (fun hm => hm.elim (hf ad e).1 (hf ad e).2)
/-- Words as they are written. -/
def wordsT (l : List ByteArray) : List UInt8 := (l.map fun s => 32 :: s.data.toList).flatten
theorem wordsT_nil : wordsT [] = [] := rfl
theorem wordsT_snoc (l : List ByteArray) (s : ByteArray) : wordsT (l ++ [s]) = wordsT l ++ (32 :: s.data.toList) := by simp [wordsT]
theorem wordsT_take (l : List ByteArray) (i : Nat) (h : i < l.length) : wordsT (l.take (i + 1)) = wordsT (l.take i) ++ (32 :: (l[i]).data.toList) := by
  rw [List.take_succ_eq_append_getElem h, wordsT_snoc]
theorem wordsT_le (l : List ByteArray) (i : Nat) : (wordsT (l.take i)).length ≤ (wordsT l).length := by
  have e : wordsT l = wordsT (l.take i) ++ wordsT (l.drop i) := by
    conv => lhs; rw [← List.take_append_drop i l]
    simp only [wordsT, List.map_append, List.flatten_append]
  rw [e, List.length_append]
  omega
theorem blank_list (s : ByteArray) : ((⟨#[32]⟩ : ByteArray) ++ s).data.toList = 32 :: s.data.toList := by simp
theorem blank_size (s : ByteArray) : ((⟨#[32]⟩ : ByteArray) ++ s).size = 1 + s.size := by rw [ByteArray.size_append]; rfl
set_option maxHeartbeats 4000000 in
set_option maxRecDepth 100000 in
theorem pline_calls (b : Nat) (p v : Value) (l0 : List UInt8) (bad : Bool) (word : ByteArray) (A : Option Addr) (c : Nat) (l : List ByteArray) (w : World) (h : Pr w b p v l0 bad) (hl : TX w A c l) (hf : Far A b v) (hn : l.length ≤ 1000000)
    (hlen : l0.length + word.size + (wordsT l).length + 1 ≤ 140737488355328) :
    Calls Tryd.prog 28 #[.pointer (some ⟨b, 0, none⟩), .string word, .slice A l.length c] w fun e w' => (∃ r, e = .returned r) ∧ ∃ v', Wr b v v' (l0 ++ word.data.toList ++ wordsT l ++ [10]) bad w w' := by
  have HP := Lib.hid h
  have HL := Lib.hid hl
  have HF := Lib.hid hf
  have hlt := h.blk.lt
  clear h hl hf
  go_enter Tryd.func28, Tryd.ntmps28
  go_wp2_with fail
  refine (wstr_calls b p v l0 bad word _ HP.out (by omega)).mono ?_
  rintro e w1 ⟨⟨r, rfl⟩, hw1⟩
  obtain ⟨v1, hw1⟩ := wr_of hw1
  have HW1 := Lib.hid hw1
  clear hw1 HP
  go_wp2_with fail
  go_loopg [7, 15] l.length (fun gg v7 v15 w' => ∃ (i : Nat) (vc : Value), v15 = .int .i64 (i : Int) ∧ Hid (i + gg = l.length) ∧ Hid (Wr b v vc (l0 ++ word.data.toList ++ wordsT (l.take i)) bad w w'))
  case atStart => exact ⟨0, v1, rfl, Lib.hid (by simp), Lib.hid (by rw [List.take_zero, wordsT_nil, List.append_nil]; exact HW1.out)⟩
  case round =>
    obtain ⟨i, vc, rfl, HI, HC⟩ := hrel
    clear HW1
    by_cases hi : i < l.length
    · obtain ⟨ad, ead, had, hc⟩ := (HL.out.wr HF.out HC.out).at_ i hi
      subst ead
      have hstep := wordsT_take l i hi
      have hle := wordsT_le l (i + 1)
      rw [hstep, List.length_append, List.length_cons] at hle
      generalize l[i] = s at hc hstep hle
      have hsz : s.data.toList.length = s.size := size_toList s
      have HST := Lib.hid hstep
      clear hstep
      go_wp2_with fail
      have hq : (l0 ++ word.data.toList ++ wordsT (l.take i)).length + ((⟨#[32]⟩ : ByteArray) ++ s).size ≤ 140737488355328 := by
        rw [blank_size, List.length_append, List.length_append, size_toList word]
        omega
      have X := wstr_calls b _ vc _ bad ((⟨#[32]⟩ : ByteArray) ++ s) wr HC.out.pr hq
      have hy := blank_list s
      generalize (⟨#[32]⟩ : ByteArray) ++ s = y at X hy ⊢
      rw [hy] at X
      refine X.mono ?_
      rintro e w2 ⟨⟨r2, rfl⟩, hw2⟩
      obtain ⟨v2, hw2⟩ := wr_of hw2
      have HC2 := Lib.hid (HC.out.trans hw2)
      clear hw2 hc had
      go_wp2_with fail
      go_roundg (l.length - (i + 1))
      case measure => have := HI.out; omega
      case rel => exact ⟨i + 1, v2, by go_num, Lib.hid (by omega), Lib.hid (by rw [HST.out, ← List.append_assoc]; exact HC2.out)⟩
    · have hi2 : i = l.length := by have := HI.out; omega
      rw [hi2, List.take_length] at HC
      go_wp2_with fail
      refine (wbyte_calls b _ vc _ bad 10 _ HC.out.pr (by rw [List.length_append, List.length_append, size_toList word]; omega)).mono ?_
      rintro e w2 ⟨⟨r2, rfl⟩, hw2⟩
      obtain ⟨v2, hw2⟩ := wr_of hw2
      have HC2 := Lib.hid (HC.out.trans hw2)
      clear hw2
      go_wp2_with fail
      go_end0
      exact ⟨⟨_, rfl⟩, v2, HC2.out⟩
/-- What may not be written. -/
def badN (n : Int) : Bool := decide (n < 0) || decide (1099511627776 < n)
theorem NX.keep {W W' : World} {A : Option Addr} {c : Nat} {l : List Int} (h : NX W A c l) (hk : ∀ ad, A = some ad → ad.block < W.heap.size → W'.heap[ad.block]? = W.heap[ad.block]?) : NX W' A c l := by
  refine ⟨Kd.C_of_reads (d := (0 : Int)) ⟨rfl, (Kd.reads_of_C (d := (0 : Int)) h.1).2.1, fun hn => ?_⟩, h.2⟩
  obtain ⟨ad, e, _⟩ := h.at_ 0 hn
  refine ⟨ad, e, fun j hj => ?_⟩
  obtain ⟨ad', e', hc⟩ := h.at_ j hj
  rw [e] at e'
  cases e'
  have hb : (ad.add j).block = ad.block := by unfold Addr.add; split <;> rfl
  have hlt := World.block_lt_of_cell? W _ hc
  rw [hb] at hlt
  have h0 := hk ad e hlt
  have : W'.cell? (ad.add j) = W.cell? (ad.add j) := by simp only [World.cell?, hb, h0]
  rw [this, hc]
  simp [rdOf, List.getD_eq_getElem?_getD, hj]
/-- A row of texts is kept where older blocks turn. -/
theorem R_keptT {W W' : World} {B : Nat} {v : Value} {l : List ByteArray} (h : Kd.R Kd.string 9 W B (fun _ => True) v l) (hb : ∀ k, B ≤ k → k < W.heap.size → W'.heap[k]? = W.heap[k]?) : Kd.R Kd.string 9 W' B (fun _ => True) v l :=
  Kd.R_mono (Kd.R_move (Kd.R_bound h) (fun k hk => hb k hk.2.1 hk.2.2.1)) (fun _ hk => hk.1)
theorem infoT : (Tryd.prog.info? 9).map (fun i => (i.zero, i.size, i.bytes)) = some (some (.string ⟨#[]⟩), 1, 16) := by kernel_rfl
theorem TurnM.above {n : Nat} {w w' : World} (h : Below n w w') : TurnM (fun k => n ≤ k) w w' := ⟨h.os, h.tape, h.output, h.size, fun k _ hn => h.block k (by omega)⟩
theorem env_set {w : World} {b : Nat} (o : Nat) (v : Value) (he : Env w) (h6 : 6 ≤ b) : Env (w.setCell ⟨b, o, none⟩ v) := he.blocks (by simp [World.setCell]) (fun k hk => Below.heap_setCell w ⟨b, o, none⟩ v k (by show k ≠ b; omega))
/-- One number's work. -/
theorem numb_step {b : Nat} {p v : Value} {l0 : List UInt8} {bd bd' : Bool} {w wr w2 w3 : World} (hw : Hid (∀ k, PrM b v k → k < w.heap.size)) (hp : Hid (Pr wr b p v l0 bd)) (ht : Hid (TurnM (fun k => k = b) w wr)) (h2 : Below (wr.setCell ⟨b, 2, none⟩ (.bool bd')).heap.size (wr.setCell ⟨b, 2, none⟩ (.bool bd')) w2) (h3 : Below w.heap.size w2 w3) :
    Pr w3 b p v l0 bd' ∧ TurnM (fun k => k = b) w w3 := by
  have p1 := (hp.out.set2 bd').below h2
  have t1 := (ht.out.trans (TurnM.setCell (M := fun k => k = b) wr (p := ⟨b, 2, none⟩) rfl (.bool bd'))).trans (TurnM.of_below h2)
  exact ⟨p1.keep fun k e => h3.block k (hw.out k e), t1.on (TurnM.above h3) (fun i hi hn => absurd hi (by omega))⟩
/-- What numbers leave behind. -/
def NumbPost (b : Nat) (p v : Value) (l0 : List UInt8) (bad : Bool) (ns : List Int) (w : World) (e : Ending) (w' : World) : Prop :=
  ∃ sv, e = .returned sv ∧ Kd.R Kd.string 9 w' w.heap.size (fun _ => True) sv (ns.map itoaB) ∧ Pr w' b p v l0 (bad || ns.any badN) ∧ TurnM (fun k => k = b) w w'
theorem any_take (l : List Int) (i : Nat) (h : i < l.length) : (l.take (i + 1)).any badN = ((l.take i).any badN || badN l[i]) := by
  rw [List.take_succ_eq_append_getElem h, List.any_append]
  simp
theorem map_take_succ (l : List Int) (i : Nat) (h : i < l.length) : (l.take (i + 1)).map itoaB = (l.take i).map itoaB ++ [itoaB l[i]] := by
  rw [List.take_succ_eq_append_getElem h, List.map_append]
  rfl
theorem env_turn {M : Fp} {w w' : World} (he : Env w) (ht : TurnM M w w') (hM : ∀ k, k < 6 → ¬ M k) : Env w' := he.blocks ht.size (fun k hk => ht.block k (by have := he.size; omega) (hM k hk))
set_option maxHeartbeats 8000000 in
set_option maxRecDepth 100000 in
theorem pnumbers_calls (b : Nat) (p v : Value) (l0 : List UInt8) (bad : Bool) (A : Option Addr) (c : Nat) (ns : List Int) (w : World) (h : Pr w b p v l0 bad) (hl : NX w A c ns) (hf : ∀ ad, A = some ad → ad.block ≠ b) (hn : ns.length ≤ 1000000)
    (hr : ∀ n ∈ ns, -9223372036854775808 ≤ n ∧ n ≤ 9223372036854775807) (h6 : 6 ≤ b) (he : Env w) :
    Calls Tryd.prog 29 #[.pointer (some ⟨b, 0, none⟩), .slice A ns.length c] w (NumbPost b p v l0 bad ns w) := by
  have HP := Lib.hid h
  have HL := Lib.hid hl
  have HF := Lib.hid hf
  have HR := Lib.hid hr
  have HE := Lib.hid he
  have hlt := h.blk.lt
  clear h hl hf hr he
  go_enter Tryd.func29, Tryd.ntmps29
  go_wp2_with fail
  go_loopg [5, 7, 10] ns.length (fun gg v5 v7 v10 w' => ∃ (i : Nat), v10 = .int .i64 (i : Int) ∧ Hid (i + gg = ns.length) ∧ Hid (Kd.R Kd.string 9 w' w.heap.size (fun _ => True) v5 ((ns.take i).map itoaB)) ∧ Hid (Pr w' b p v l0 (bad || (ns.take i).any badN)) ∧ Hid (TurnM (fun k => k = b) w w'))
  case atStart => exact ⟨0, rfl, Lib.hid (by simp), Lib.hid (Kd.R_nil _ _ _ _ _), Lib.hid (by simpa using HP.out), Lib.hid (TurnM.refl _ _)⟩
  case round =>
    obtain ⟨i, rfl, HI, HRW, HPR, HT⟩ := hrel
    by_cases hi : i < ns.length
    · obtain ⟨ad, ead, hc⟩ := (HL.out.keep (W' := wr) (fun ad e hlt => HT.out.block ad.block hlt (HF.out ad e))).at_ i hi
      subst ead
      have hrg := HR.out _ (List.getElem_mem hi)
      have HAT := Lib.hid (any_take ns i hi)
      have HMT := Lib.hid (map_take_succ ns i hi)
      generalize ns[i] = n at hc hrg HAT HMT
      have c2 := HPR.out.c2
      have f2 : wr.frozen? ⟨b, 2, none⟩ = false := HPR.out.blk.free 2
      have HEW := Lib.hid (env_turn HE.out HT.out (fun k hk e => by omega))
      have hil : i ≤ 1000000 := by omega
      have hln : ((ns.take i).map itoaB).length = i := by rw [List.length_map, List.length_take]; omega
      generalize (ns.take i).map itoaB = X at HRW HMT hln
      generalize hbd : (bad || (ns.take i).any badN) = bd at HPR c2
      have hsz1 := HT.out.size
      have HPW : Hid (∀ k, PrM b v k → k < w.heap.size) := Lib.hid HP.out.lt
      have hcase : (bd = true ∧ (bd || badN n) = true) ∨ (bd = false ∧ n < 0 ∧ (bd || badN n) = true) ∨ (bd = false ∧ ¬ n < 0 ∧ 1099511627776 < n ∧ (bd || badN n) = true) ∨ (bd = false ∧ ¬ n < 0 ∧ ¬ 1099511627776 < n ∧ (bd || badN n) = false) := by
        unfold badN
        cases bd <;> by_cases h1 : n < 0 <;> by_cases h2 : 1099511627776 < n <;> simp [h1, h2]
      have HBD : Hid ((bad || (ns.take (i + 1)).any badN) = (bd || badN n)) := Lib.hid (by rw [HAT.out, ← Bool.or_assoc, hbd])
      generalize (bd || badN n) = bd' at hcase HBD
      clear HAT hbd
      rcases hcase with ⟨rfl, rfl⟩ | ⟨rfl, h1, rfl⟩ | ⟨rfl, h1, h2, rfl⟩ | ⟨rfl, h1, h2, rfl⟩
      · go_wp2_with fail
        refine (itoa_calls n _ hrg (env_set 2 (.bool true) HEW.out h6)).mono ?_
        rintro e w2 ⟨rfl, hb2⟩
        have hrw2 : Kd.R Kd.string 9 w2 w.heap.size (fun _ => True) u5 X := Kd.R_below (R_keptT HRW.out (fun k hk _ => Below.heap_setCell wr ⟨b, 2, none⟩ (.bool true) k (by show k ≠ b; omega))) hb2
        have hsz2 : w.heap.size ≤ w2.heap.size := by have := hb2.size; simp [World.setCell] at this; omega
        have HB2 := Lib.hid hb2
        have HRW2 := Lib.hid hrw2
        clear hb2 hrw2 HRW
        go_wp2_with (first | ((with_reducible refine gate_builtin (b := .append) (xs := #[.tmp 29, .tmp 32]) rfl ?_); at_builtin; refine Kd.R_append Kd.string (w0 := w2) w.heap.size rfl (.tmp 29) (.tmp 32) 58 9 (.string ⟨#[]⟩) 16 rfl Tryd.underlying58 infoT rfl (by decide) (by omega) u5 X (itoaB n) [.string (itoaB n)] (fun _ => True) (fun _ => False) rfl rfl rfl (fun _ h => h.elim) (fun _ _ => trivial) HRW2.out (Below.refl _ _) hsz2 (by omega) ?_; intro sv w3 ho hb3 hg hat; obtain ⟨A9, c9, e9⟩ := Kd.R_slice ho; subst e9; have HST := Lib.hid (numb_step HPW HPR HT HB2.out hb3); rw [List.length_append, List.length_singleton, hln] at ho; have HO := Lib.hid ho; clear ho hb3 hg hat HB2))
        go_roundg (ns.length - (i + 1))
        case measure => have := HI.out; omega
        case rel => exact ⟨i + 1, by go_num, Lib.hid (by omega), Lib.hid (by rw [HMT.out]; exact HO.out), Lib.hid (by rw [HBD.out]; exact HST.out.1), Lib.hid HST.out.2⟩
      · have d1 : decide (n < 0) = true := decide_eq_true h1
        go_wp2_with fail
        refine (itoa_calls n _ hrg (env_set 2 (.bool true) HEW.out h6)).mono ?_
        rintro e w2 ⟨rfl, hb2⟩
        have hrw2 : Kd.R Kd.string 9 w2 w.heap.size (fun _ => True) u5 X := Kd.R_below (R_keptT HRW.out (fun k hk _ => Below.heap_setCell wr ⟨b, 2, none⟩ (.bool true) k (by show k ≠ b; omega))) hb2
        have hsz2 : w.heap.size ≤ w2.heap.size := by have := hb2.size; simp [World.setCell] at this; omega
        have HB2 := Lib.hid hb2
        have HRW2 := Lib.hid hrw2
        clear hb2 hrw2 HRW
        go_wp2_with (first | ((with_reducible refine gate_builtin (b := .append) (xs := #[.tmp 29, .tmp 32]) rfl ?_); at_builtin; refine Kd.R_append Kd.string (w0 := w2) w.heap.size rfl (.tmp 29) (.tmp 32) 58 9 (.string ⟨#[]⟩) 16 rfl Tryd.underlying58 infoT rfl (by decide) (by omega) u5 X (itoaB n) [.string (itoaB n)] (fun _ => True) (fun _ => False) rfl rfl rfl (fun _ h => h.elim) (fun _ _ => trivial) HRW2.out (Below.refl _ _) hsz2 (by omega) ?_; intro sv w3 ho hb3 hg hat; obtain ⟨A9, c9, e9⟩ := Kd.R_slice ho; subst e9; have HST := Lib.hid (numb_step HPW HPR HT HB2.out hb3); rw [List.length_append, List.length_singleton, hln] at ho; have HO := Lib.hid ho; clear ho hb3 hg hat HB2))
        go_roundg (ns.length - (i + 1))
        case measure => have := HI.out; omega
        case rel => exact ⟨i + 1, by go_num, Lib.hid (by omega), Lib.hid (by rw [HMT.out]; exact HO.out), Lib.hid (by rw [HBD.out]; exact HST.out.1), Lib.hid HST.out.2⟩
      · have d1 : decide (n < 0) = false := decide_eq_false h1
        have d2 : decide (1099511627776 < n) = true := decide_eq_true h2
        go_wp2_with fail
        refine (itoa_calls n _ hrg (env_set 2 (.bool true) HEW.out h6)).mono ?_
        rintro e w2 ⟨rfl, hb2⟩
        have hrw2 : Kd.R Kd.string 9 w2 w.heap.size (fun _ => True) u5 X := Kd.R_below (R_keptT HRW.out (fun k hk _ => Below.heap_setCell wr ⟨b, 2, none⟩ (.bool true) k (by show k ≠ b; omega))) hb2
        have hsz2 : w.heap.size ≤ w2.heap.size := by have := hb2.size; simp [World.setCell] at this; omega
        have HB2 := Lib.hid hb2
        have HRW2 := Lib.hid hrw2
        clear hb2 hrw2 HRW
        go_wp2_with (first | ((with_reducible refine gate_builtin (b := .append) (xs := #[.tmp 29, .tmp 32]) rfl ?_); at_builtin; refine Kd.R_append Kd.string (w0 := w2) w.heap.size rfl (.tmp 29) (.tmp 32) 58 9 (.string ⟨#[]⟩) 16 rfl Tryd.underlying58 infoT rfl (by decide) (by omega) u5 X (itoaB n) [.string (itoaB n)] (fun _ => True) (fun _ => False) rfl rfl rfl (fun _ h => h.elim) (fun _ _ => trivial) HRW2.out (Below.refl _ _) hsz2 (by omega) ?_; intro sv w3 ho hb3 hg hat; obtain ⟨A9, c9, e9⟩ := Kd.R_slice ho; subst e9; have HST := Lib.hid (numb_step HPW HPR HT HB2.out hb3); rw [List.length_append, List.length_singleton, hln] at ho; have HO := Lib.hid ho; clear ho hb3 hg hat HB2))
        go_roundg (ns.length - (i + 1))
        case measure => have := HI.out; omega
        case rel => exact ⟨i + 1, by go_num, Lib.hid (by omega), Lib.hid (by rw [HMT.out]; exact HO.out), Lib.hid (by rw [HBD.out]; exact HST.out.1), Lib.hid HST.out.2⟩
      · have d1 : decide (n < 0) = false := decide_eq_false h1
        have d2 : decide (1099511627776 < n) = false := decide_eq_false h2
        go_wp2_with fail
        refine (itoa_calls n _ hrg (env_set 2 (.bool false) HEW.out h6)).mono ?_
        rintro e w2 ⟨rfl, hb2⟩
        have hrw2 : Kd.R Kd.string 9 w2 w.heap.size (fun _ => True) u5 X := Kd.R_below (R_keptT HRW.out (fun k hk _ => Below.heap_setCell wr ⟨b, 2, none⟩ (.bool false) k (by show k ≠ b; omega))) hb2
        have hsz2 : w.heap.size ≤ w2.heap.size := by have := hb2.size; simp [World.setCell] at this; omega
        have HB2 := Lib.hid hb2
        have HRW2 := Lib.hid hrw2
        clear hb2 hrw2 HRW
        go_wp2_with (first | ((with_reducible refine gate_builtin (b := .append) (xs := #[.tmp 29, .tmp 32]) rfl ?_); at_builtin; refine Kd.R_append Kd.string (w0 := w2) w.heap.size rfl (.tmp 29) (.tmp 32) 58 9 (.string ⟨#[]⟩) 16 rfl Tryd.underlying58 infoT rfl (by decide) (by omega) u5 X (itoaB n) [.string (itoaB n)] (fun _ => True) (fun _ => False) rfl rfl rfl (fun _ h => h.elim) (fun _ _ => trivial) HRW2.out (Below.refl _ _) hsz2 (by omega) ?_; intro sv w3 ho hb3 hg hat; obtain ⟨A9, c9, e9⟩ := Kd.R_slice ho; subst e9; have HST := Lib.hid (numb_step HPW HPR HT HB2.out hb3); rw [List.length_append, List.length_singleton, hln] at ho; have HO := Lib.hid ho; clear ho hb3 hg hat HB2))
        go_roundg (ns.length - (i + 1))
        case measure => have := HI.out; omega
        case rel => exact ⟨i + 1, by go_num, Lib.hid (by omega), Lib.hid (by rw [HMT.out]; exact HO.out), Lib.hid (by rw [HBD.out]; exact HST.out.1), Lib.hid HST.out.2⟩
    · have hi2 : i = ns.length := by have := HI.out; omega
      subst hi2
      rw [List.take_length] at HRW HPR
      go_wp2_with fail
      go_ret
      exact ⟨_, rfl, HRW.out, HPR.out, HT.out⟩
end Go.Proofs.YtipccndoffcfiaaDoor.Script
