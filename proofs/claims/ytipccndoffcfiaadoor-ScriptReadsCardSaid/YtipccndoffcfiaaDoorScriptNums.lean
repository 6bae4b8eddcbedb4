/- script.numbers, as it is called. -/
import Derived.Test.YtipccndoffcfiaaDoorScriptNumber
import Derived.Test.YtipccndoffcfiaaDoorPRefx0
namespace Go.Proofs.YtipccndoffcfiaaDoor.Script
open Go.RowKit Go.Proofs.YtipccndoffcfiaaDoor.PRef Go.Proofs.YtipccndoffcfiaaDoorW.PrintWords
attribute [local go_sem] Oper.semAt_some
set_option linter.unusedVariables false
set_option linter.unusedSimpArgs false
/-- Texts that are read: the address, the capacity. -/
def TX (W : World) (A : Option Addr) (c : Nat) (l : List ByteArray) : Prop := Kd.C Kd.string W A l.length l ∧ l.length ≤ c
theorem TX.below {W W' : World} {A : Option Addr} {c : Nat} {l : List ByteArray} (h : TX W A c l) (hb : Below W.heap.size W W') : TX W' A c l := ⟨Kd.C_below h.1 hb, h.2⟩
theorem TX.at_ {W : World} {A : Option Addr} {c : Nat} {l : List ByteArray} (h : TX W A c l) (k : Nat) (hk : k < l.length) : ∃ ad, A = some ad ∧ (ad.add k).block < W.heap.size ∧ W.cell? (ad.add k) = some (.string l[k]) := by
  obtain ⟨ad, e, hc⟩ := ReadsOf.at_ (Kd.reads_of_C (d := ByteArray.empty) h.1) (k : Int) (by omega) (by omega)
  have hc' : W.cell? (ad.add k) = some (.string l[k]) := by
    rw [Int.toNat_natCast] at hc
    rw [hc]
    simp [rdOf, List.getD_eq_getElem?_getD, hk]
  exact ⟨ad, e, World.block_lt_of_cell? W _ hc', hc'⟩
theorem TX.lt {W : World} {A : Option Addr} {c : Nat} {l : List ByteArray} (h : TX W A c l) (hl : l ≠ []) (ad : Addr) (ha : A = some ad) : ad.block < W.heap.size := by
  have h0 : 0 < l.length := by cases l with | nil => exact absurd rfl hl | cons x r => simp
  obtain ⟨ad', e, hb, _⟩ := h.at_ 0 h0
  rw [ha] at e
  cases e
  have : (ad.add 0).block = ad.block := by unfold Addr.add; split <;> rfl
  rwa [this] at hb
/-- What turns one block alone. -/
structure Turn (b : Nat) (w w' : World) : Prop where
  os : w'.os = w.os
  tape : w'.tape = w.tape
  output : w'.output = w.output
  size : w.heap.size ≤ w'.heap.size
  block : ∀ k, k < w.heap.size → k ≠ b → w'.heap[k]? = w.heap[k]?
theorem Turn.refl (b : Nat) (w : World) : Turn b w w := ⟨rfl, rfl, rfl, Nat.le_refl _, fun _ _ _ => rfl⟩
theorem Turn.trans {b : Nat} {w w1 w2 : World} (h : Turn b w w1) (k : Turn b w1 w2) : Turn b w w2 :=
  ⟨k.os.trans h.os, k.tape.trans h.tape, k.output.trans h.output, Nat.le_trans h.size k.size, fun i hi hn => (k.block i (Nat.lt_of_lt_of_le hi h.size) hn).trans (h.block i hi hn)⟩
theorem Turn.of_below {b : Nat} {w w' : World} (h : Below w.heap.size w w') : Turn b w w' := ⟨h.os, h.tape, h.output, h.size, fun k hk _ => h.block k hk⟩
theorem Turn.set {b : Nat} (w : World) {p : Addr} (hp : p.block = b) (v : Value) : Turn b w (w.setCell p v) := ⟨rfl, rfl, rfl, by simp [World.setCell], fun k hk hn => Below.heap_setCell w p v k (by rw [hp]; exact hn)⟩
theorem Turn.below {b n : Nat} {w w' : World} (h : Turn b w w') (hb : n ≤ b) (hn : n ≤ w.heap.size) : Below n w w' := ⟨h.os, h.tape, h.output, h.size, fun k hk => h.block k (Nat.lt_of_lt_of_le hk hn) (by omega)⟩
theorem Turn.env {b : Nat} {w w' : World} (h : Turn b w w') (he : Env w) (hb : 6 ≤ b) : Env w' := he.blocks h.size (fun k hk => h.block k (by have := he.size; omega) (by omega))
theorem Turn.cell {b : Nat} {w w' : World} (h : Turn b w w') {p : Addr} {x : Value} (hp : w.cell? p = some x) (hn : p.block ≠ b) : w'.cell? p = some x := by
  have hlt := World.block_lt_of_cell? w _ hp
  rw [← hp]
  simp only [World.cell?, h.block _ hlt hn]
/-- A block's cells. -/
def Blk (W : World) (b t : Nat) (cs : List Value) : Prop := W.heap[b]? = some (.cells cs.toArray t (0, 0))
theorem Blk.cell {W : World} {b t : Nat} {cs : List Value} (h : Blk W b t cs) (j : Nat) (hj : j < cs.length) : W.cell? ⟨b, j, none⟩ = some cs[j] := by
  unfold Blk at h
  simp [World.cell?, h, hj]
theorem Blk.free {W : World} {b t : Nat} {cs : List Value} (h : Blk W b t cs) (j : Nat) : W.frozen? ⟨b, j, none⟩ = false := by
  unfold Blk at h
  simp [World.frozen?, h]
theorem Blk.lt {W : World} {b t : Nat} {cs : List Value} (h : Blk W b t cs) : b < W.heap.size := (Array.getElem?_eq_some_iff.1 h).1
theorem Blk.turn {W W' : World} {b t c : Nat} {cs : List Value} (h : Blk W b t cs) (ht : Turn c W W') (hn : b ≠ c) : Blk W' b t cs := (ht.block b h.lt hn).trans h
theorem Blk.below {W W' : World} {b t : Nat} {cs : List Value} (h : Blk W b t cs) (hb : Below W.heap.size W W') : Blk W' b t cs := (hb.block b h.lt).trans h
theorem Blk.set {W : World} {b t : Nat} {cs : List Value} (h : Blk W b t cs) (j : Nat) (v : Value) : Blk (W.setCell ⟨b, j, none⟩ v) b t (cs.set j v) := by
  have hlt := h.lt
  have h' : W.heap[b] = .cells cs.toArray t (0, 0) := by
    have h2 : W.heap[b]? = _ := h
    simpa [Array.getElem?_eq_getElem hlt] using h2
  show (W.heap.modify b _)[b]? = _
  rw [Array.getElem?_eq_getElem (by simpa using hlt), Array.getElem_modify_self, h']
  simp
/-- The first cells, written over. -/
def upd (cs : List Value) (ns : List Nat) : List Value := ns.map (fun (n : Nat) => Value.int .i64 (n : Int)) ++ cs.drop ns.length
theorem upd_nil (cs : List Value) : upd cs [] = cs := rfl
theorem upd_snoc (cs : List Value) (ns : List Nat) (n : Nat) (h : ns.length < cs.length) : (upd cs ns).set ns.length (.int .i64 (n : Int)) = upd cs (ns ++ [n]) := by
  unfold upd
  rw [List.set_append_right _ _ (by simp), List.length_map, Nat.sub_self, List.drop_eq_getElem_cons h, List.set_cons_zero, List.map_append, List.length_append, List.length_singleton, List.append_assoc]
  rfl
theorem upd_length (cs : List Value) (ns : List Nat) (h : ns.length ≤ cs.length) : (upd cs ns).length = cs.length := by simp [upd]; omega
/-- Pointers to a block's first cells. -/
def ptrs (b m : Nat) : List Value := (List.range m).map fun j => Value.pointer (some ⟨b, j, none⟩)
theorem mapM_take {l : List ByteArray} {i : Nat} {ns : List Nat} {n : Nat} (hi : i < l.length) (h : (l.take i).mapM numB = some ns) (hn : numB l[i] = some n) : (l.take (i + 1)).mapM numB = some (ns ++ [n]) := by
  rw [List.take_succ_eq_append_getElem hi, List.mapM_append, h]
  simp [hn]
theorem mapM_len : ∀ (l : List ByteArray) (ns : List Nat), l.mapM numB = some ns → ns.length = l.length
  | [], ns, h => by
    simp at h
    subst h
    rfl
  | x :: l, ns, h => by
    rw [List.mapM_cons] at h
    cases hx : numB x with
    | none => rw [hx] at h; simp at h
    | some n =>
      cases hl : l.mapM numB with
      | none => rw [hx, hl] at h; simp at h
      | some ms =>
        rw [hx, hl] at h
        simp at h
        subst h
        simp [mapM_len l ms hl]
theorem mapM_none : ∀ {l : List ByteArray} {i : Nat} (hi : i < l.length), numB l[i] = none → l.mapM numB = none
  | [], i, hi, _ => absurd hi (Nat.not_lt_zero _)
  | x :: l, 0, hi, hn => by
    have hx : numB x = none := hn
    rw [List.mapM_cons, hx]
    rfl
  | x :: l, i + 1, hi, hn => by
    have h := mapM_none (l := l) (i := i) (by simpa using hi) (by simpa using hn)
    rw [List.mapM_cons, h]
    cases numB x <;> rfl
/-- What numbers come to. -/
def NumsPost (l : List ByteArray) (m b t : Nat) (cs : List Value) (w : World) (e : Ending) (w' : World) : Prop :=
  ∃ r : Option (List Nat), r = (if l.length = m then l.mapM numB else none) ∧ e = .returned (.bool r.isSome) ∧ Turn b w w' ∧ (∀ ns, r = some ns → Blk w' b t (upd cs ns)) ∧ ∃ ns', ns'.length ≤ m ∧ Blk w' b t (upd cs ns')
set_option maxHeartbeats 4000000 in
set_option maxRecDepth 100000 in
theorem numbers_calls (A : Option Addr) (c : Nat) (l : List ByteArray) (g m b t tg : Nat) (cs : List Value) (w : World) (hl : TX w A c l) (hne : l ≠ [] → ∀ ad, A = some ad → ad.block ≠ b) (hz : ∀ x ∈ l, x.size ≤ 1000000) (hn : l.length ≤ 1000000)
    (hg : Blk w g tg (ptrs b m)) (hgb : g ≠ b) (hb : Blk w b t cs) (hm : m ≤ cs.length) (h6 : 6 ≤ b) (he : Env w) (hm2 : m ≤ 1000) :
    Calls Tryd.prog 53 #[.slice A l.length c, .slice (some ⟨g, 0, none⟩) m m] w (NumsPost l m b t cs w) := by
  have HL := Lib.hid hl
  have HG := Lib.hid hg
  have HBk := Lib.hid hb
  have HE := Lib.hid he
  have HZ := Lib.hid hz
  have HNE := Lib.hid hne
  clear hl hg hb he hz hne
  by_cases hlen : l.length = m
  · go_enter Tryd.func53, Tryd.ntmps53
    go_wp2_with fail
    go_loopg [5, 6, 7, 8, 16] l.length (fun gg v5 v6 v7 v8 v16 w' => ∃ (i : Nat) (ns : List Nat), v16 = .int .i64 (i : Int) ∧ Hid (i + gg = l.length) ∧ Hid ((l.take i).mapM numB = some ns) ∧ Hid (Turn b w w') ∧ Hid (Blk w' b t (upd cs ns)))
    case atStart => exact ⟨0, [], rfl, Lib.hid (by simp), Lib.hid rfl, Lib.hid (Turn.refl _ _), Lib.hid (by rw [upd_nil]; exact HBk.out)⟩
    case round =>
      obtain ⟨i, ns, rfl, HI, HM, HT, HK⟩ := hrel
      by_cases hlt : i < l.length
      · have hnl : ns.length = i := by rw [mapM_len _ _ HM.out, List.length_take]; omega
        obtain ⟨ad, ead, had, hcw⟩ := HL.out.at_ i hlt
        have hnb : (ad.add i).block ≠ b := by
          have : (ad.add i).block = ad.block := by unfold Addr.add; split <;> rfl
          rw [this]
          exact HNE.out (by intro e; subst e; exact absurd hlt (Nat.not_lt_zero _)) ad ead
        subst ead
        have hc := HT.out.cell hcw hnb
        have hsz := HZ.out _ (List.getElem_mem hlt)
        have hpl : (ptrs b m).length = m := by simp [ptrs]
        have hpi : (ptrs b m)[i]'(by rw [hpl]; omega) = .pointer (some ⟨b, i, none⟩) := by simp [ptrs]
        have hp := (HG.out.turn HT.out hgb).cell i (by rw [hpl]; omega)
        rw [hpi] at hp
        have hf : wr.frozen? ⟨b, i, none⟩ = false := HK.out.free i
        have hEw := HT.out.env HE.out h6
        have hmt : ∀ n, numB l[i] = some n → (l.take (i + 1)).mapM numB = some (ns ++ [n]) := fun n hn => mapM_take hlt HM.out hn
        have hmn := @mapM_none l i hlt
        generalize l[i] = s at hc hsz hmt hmn
        have HMT := Lib.hid hmt
        have HMN := Lib.hid hmn
        have HSZ := Lib.hid hsz
        have HNL := Lib.hid hnl
        clear hmt hmn hsz hcw had hpl hpi hnb hnl
        go_wp2_with fail
        refine (number_calls s _ HSZ.out hEw).mono ?_
        rintro e w1 ⟨rfl, hb1⟩
        have hp1 := (hb1.cell (World.block_lt_of_cell? wr _ hp)).trans hp
        have hf1 : w1.frozen? ⟨b, i, none⟩ = false := (HK.out.below hb1).free i
        replace HK := Lib.hid (HK.out.below hb1)
        replace HT := Lib.hid (HT.out.trans (Turn.of_below hb1))
        clear hb1 hc hp hf hEw
        cases hn9 : numB s with
        | none =>
          have HN9 := Lib.hid hn9
          clear hn9
          simp only [Option.isSome_none, Option.getD_none]
          go_wp2_with fail
          go_ret
          exact ⟨none, by rw [if_pos hlen, HMN.out HN9.out], rfl, HT.out, (fun ns h => by cases h), ns, by rw [HNL.out]; omega, HK.out⟩
        | some n =>
          have HN9 := Lib.hid hn9
          clear hn9
          simp only [Option.isSome_some, Option.getD_some]
          obtain ⟨old, hk⟩ : ∃ old, w1.cell? ⟨b, i, none⟩ = some old := ⟨_, HK.out.cell i (by rw [upd_length cs ns (by rw [HNL.out]; omega)]; omega)⟩
          go_wp2_with fail
          go_roundg (l.length - (i + 1))
          case measure => have := HI.out; omega
          case rel =>
            refine ⟨i + 1, ns ++ [n], by go_num, Lib.hid (by omega), Lib.hid (HMT.out n HN9.out), Lib.hid (HT.out.trans (Turn.set (p := ⟨b, i, none⟩) _ rfl _)), Lib.hid ?_⟩
            have := HK.out.set i (.int .i64 (n : Int))
            have e := upd_snoc cs ns n (by rw [HNL.out]; omega)
            rw [HNL.out] at e
            rwa [e] at this
      · have hi : i = l.length := by have := HI.out; omega
        subst hi
        rw [List.take_length] at HM
        go_wp2_with fail
        go_ret
        exact ⟨some ns, by rw [if_pos hlen, HM.out], rfl, HT.out, (fun ms h => by cases h; exact HK.out), ns, by rw [mapM_len _ _ HM.out]; omega, HK.out⟩
  · have e1 : decide ((l.length : Int) = (m : Int)) = false := decide_eq_false (by omega)
    have e2 : ((l.length : Int) == (m : Int)) = false := beq_false_of_ne (by omega)
    go_enter Tryd.func53, Tryd.ntmps53
    go_wp2_with fail
    go_ret
    exact ⟨none, by rw [if_neg hlen], rfl, Turn.refl _ _, (fun ns h => by cases h), [], Nat.zero_le _, HBk.out⟩
end Go.Proofs.YtipccndoffcfiaaDoor.Script
