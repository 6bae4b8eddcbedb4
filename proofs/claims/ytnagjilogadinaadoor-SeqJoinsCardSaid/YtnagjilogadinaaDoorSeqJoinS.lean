/- Join, as a sequence, tells the sequences one behind the other. -/
import Derived.Test.YtnagjilogadinaaDoorSeqMapS

namespace Go.Proofs.YtnagjilogadinaaDoor.SeqK
open Go.RowKit Go.Shelf Go.Proofs.YtnagjilogadinaaDoor.SeqM
open Go.Proofs.YtnagjilogadinaaDoor.SeqS (eS)
attribute [local go_sem] Oper.semAt_some
set_option linter.unusedVariables false

def mark (D : Nat) : Deferred := { target := .collected D, args := #[] }

/-- A function that went through several range statements leaves: each mark's block is shut. -/
theorem leaves_marks {F : Fence} {n : Nat} {P : Program} {fn : Func} {tmps : Array Value} {R : Ending → World → Prop} (hres : fn.results = #[]) : ∀ (ds : List Nat) (W : World), (∀ D ∈ ds, W.heap[D]? = some (.deferred (some []))) → ds.Nodup →
    (∀ W', TurnM (fun k => k ∈ ds) W W' → R (.returned (.tuple #[])) W') → LeavesInM F n P fn tmps R (ds.map mark) .returning W
  | [], W, _, _, h => ⟨_, results_none hres _ _ _, h W (TurnM.refl _ _)⟩
  | D :: ds, W, hd, hn, h => by
    refine ⟨by simp, .inl ⟨D, _, rfl, run_takeDeferred (hd D (by simp)), leaves_marks hres ds _ (fun E hE => ?_) (List.nodup_cons.1 hn).2 (fun W' hT => h W' ?_)⟩⟩
    · rw [World.putObj_heap_other (fun e => by subst e; exact (List.nodup_cons.1 hn).1 hE)]
      exact hd E (by simp [hE])
    · exact (TurnM.putObj (M := fun k => k ∈ D :: ds) W (by simp) _).trans (hT.mono fun k _ h => by simp [h])

structure El where
  v : Value
  xs : List ByteArray
  R : Fp
def ElV (W : World) (e : El) : Prop := (e.v = Value.nilFunc ∧ e.xs = []) ∨ SeqVS e.v e.xs e.R W
theorem ElV.keep {W W' : World} {e : El} (h : ElV W e) (hk : KeepM e.R W W') : ElV W' e := h.imp id (fun h => h.keep hk)
theorem ElV.lt {W : World} {e : El} (h : ElV W e) (hn : e.v ≠ Value.nilFunc) : ∀ k, e.R k → k < W.heap.size := h.elim (fun h => absurd h.1 hn) (fun h => h.1)
def CellsV (W : World) (A : Option Addr) (vs : List Value) : Prop :=
  vs = [] ∨ ∃ b off, A = some ⟨b, off, none⟩ ∧ b < W.heap.size ∧ ∀ j (h : j < vs.length), W.cell? ⟨b, off + j, none⟩ = some vs[j]
def RJ (b : Nat) (A : Option Addr) (els : List El) : Fp := fun k => k = b ∨ (∃ g off, els ≠ [] ∧ A = some ⟨g, off, none⟩ ∧ k = g) ∨ ∃ e ∈ els, e.v ≠ Value.nilFunc ∧ e.R k

def JoinI (l b2 : Nat) (J : List ByteArray → Fp → World → Prop) (done : List ByteArray) (K R : Fp) (ds : List Nat) (W0 Ws : World) (pre : List ByteArray) (M : Fp) (W : World) : Prop :=
  J (done ++ pre) (fun k => K k ∨ M k) W ∧ (W.heap[b2]? = some (.cells #[.func (.yield l) #[] #[]] 50 (0, 0)) ∧ ¬ M b2) ∧ (KeepM R W0 W ∧ ∀ k, R k → ¬ M k) ∧ (KeepM (fun k => k ∈ ds) Ws W ∧ ∀ k, k ∈ ds → ¬ M k)
theorem joinI_stable (l b2 : Nat) {J : List ByteArray → Fp → World → Prop} (hJ : Stable J) (done : List ByteArray) (K R : Fp) (ds : List Nat) (W0 Ws : World) (hR : ∀ k, R k → k < W0.heap.size) (hds : ∀ k ∈ ds, k < Ws.heap.size) : Stable (JoinI l b2 J done K R ds W0 Ws) :=
  (hJ.map (fun pre => done ++ pre) K).and ((stable_block b2 (fun _ => .cells #[.func (.yield l) #[] #[]] 50 (0, 0))).and ((stable_keep R W0 hR).and (stable_keep (fun k => k ∈ ds) Ws hds)))
def JoinX (Jx : List ByteArray → Fp → World → Prop) (done : List ByteArray) (K : Fp) (ds : List Nat) (Ws : World) (c : Code) (pre : List ByteArray) (M : Fp) (W : World) : Prop :=
  c = .ret ∧ Jx (done ++ pre) (fun k => K k ∨ M k) W ∧ (KeepM (fun k => k ∈ ds) Ws W ∧ ∀ k, k ∈ ds → ¬ M k)
theorem joinX_stable {Jx : List ByteArray → Fp → World → Prop} (hJ : Stable Jx) (done : List ByteArray) (K : Fp) (ds : List Nat) (Ws : World) (hds : ∀ k ∈ ds, k < Ws.heap.size) (c : Code) : Stable (JoinX Jx done K ds Ws c) :=
  (stable_pure (fun _ => c = .ret)).and ((hJ.map (fun pre => done ++ pre) K).and (stable_keep (fun k => k ∈ ds) Ws hds))

def flat (els : List El) : List ByteArray := els.flatMap fun e => e.xs
theorem flat_take_succ (els : List El) (k : Nat) (h : k < els.length) : flat (els.take (k + 1)) = flat (els.take k) ++ els[k].xs := by
  unfold flat
  rw [List.take_succ_eq_append_getElem h, List.flatMap_append, List.flatMap_cons, List.flatMap_nil, List.append_nil]
theorem flat_split (els : List El) (k : Nat) (h : k < els.length) : flat els = flat (els.take k) ++ (els[k].xs ++ flat (els.drop (k + 1))) := by
  have := List.take_append_drop k els
  rw [List.drop_eq_getElem_cons h] at this
  conv => lhs; rw [← this]
  unfold flat
  rw [List.flatMap_append, List.flatMap_cons]

/-- What holds between two sequences. -/
def Between (l b b2 n cap : Nat) (A : Option Addr) (els : List El) (J : List ByteArray → Fp → World → Prop) (Mo : Fp) (W0 : World) (k : Nat) (ds : List Nat) (W : World) : Prop :=
  ∃ M, J (flat (els.take k)) M W ∧ (∀ i, Mo i → M i) ∧ M b2 ∧ (∀ i ∈ ds, M i) ∧ (∀ i, M i → i < W.heap.size) ∧ KeepM (RJ b A els) W0 W ∧ W.heap[b2]? = some (.cells #[.func (.yield l) #[] #[]] 50 (0, 0)) ∧ (∀ D ∈ ds, W.heap[D]? = some (.deferred (some []))) ∧ ds.Nodup

def JInv (l b b2 n cap : Nat) (A : Option Addr) (els : List El) (J : List ByteArray → Fp → World → Prop) (Mo : Fp) (W0 : World) (a : Act) (W : World) : Prop :=
  ∃ (k : Nat) (ds : List Nat) (u4 u5 u9 u10 u11 u12 u13 u14 u15 u16 u17 u18 u19 u20 : Value), k ≤ els.length ∧
    a = { tmps := #[.func (.yield l) #[] #[], .pointer (some ⟨b, 0, none⟩), .pointer (some ⟨b2, 0, none⟩), undef, u4, u5, .slice A els.length cap, .int .i64 els.length, .int .i64 k, u9, u10, u11, u12, u13, u14, u15, u16, u17, u18, u19, u20], defers := ds.map mark } ∧
    Between l b b2 n cap A els J Mo W0 k ds W

set_option maxHeartbeats 4000000 in
set_option maxRecDepth 100000 in
theorem join1 (b : Nat) (A : Option Addr) (cap : Nat) (els : List El) (hlen : els.length ≤ 1000) (W : World) (hb : Boxed W b 53 (.slice A els.length cap)) (hc : CellsV W A (els.map El.v)) (hel : ∀ e ∈ els, ElV W e) :
    RunM Tryd.prog 33 #[.pointer (some ⟨b, 0, none⟩)] eS (flat els) (RJ b A els) (fun _ => False) W := by
  intro n l J Jx hJ hJx hY Mo hM0 hMlt h0
  have HJ := Lib.hid hJ
  have HJx := Lib.hid hJx
  have HY := Lib.hid hY
  have HM := Lib.hid hMlt
  have HC := Lib.hid hc
  have HEl := Lib.hid hel
  have hbc := hb.cell
  have hbl := hb.lt
  have hb3 := World.alloc_heap_new W (.cells #[.func (.yield l) #[] #[]] 50)
  have hB0 : Below W.heap.size W (W.alloc (.cells #[.func (.yield l) #[] #[]] 50)) := (Below.refl _ W).alloc (Nat.le_refl _) _
  have H0 := Lib.hid (hJ.own (.cells #[.func (.yield l) #[] #[]] 50) h0)
  have hsz : (W.alloc (.cells #[.func (.yield l) #[] #[]] 50)).heap.size = W.heap.size + 1 := by simp
  have HB3 := Lib.hid hb3
  have HB0 := Lib.hid hB0
  have hRlt : ∀ k, RJ b A els k → k < W.heap.size := by
    rintro k (rfl | ⟨g, off, hne, e, rfl⟩ | ⟨e, he, hne, hk⟩)
    · exact hbl
    · rcases hc with h | ⟨b', off', e', hb', _⟩
      · exact absurd (List.map_eq_nil_iff.1 h) hne
      · rw [e] at e'; cases e'; exact hb'
    · exact (hel e he).lt hne k hk
  have HRlt := Lib.hid hRlt
  clear hJ hJx hY h0 hMlt hM0 hc hel hb3 hB0 hRlt
  have hd : Fence.wide.depth = none := rfl
  have hq := SeqS.fn_eq
  have hqn := SeqS.fn_nil
  refine callsIn_of_wp_marks Tryd.func33 rfl trivial ?_ rfl
  simp only [Tryd.ntmps33, List.size_toArray, List.length_cons, List.length_nil, Nat.reduceAdd, Nat.reduceSub, Array.replicate_succ, Array.replicate_zero, List.push_toArray, List.append_toArray, List.nil_append, List.cons_append]
  gi_wp2
  obtain ⟨W0, hW0⟩ : ∃ W0, W.alloc (.cells #[.func (.yield l) #[] #[]] 50) = W0 := ⟨_, rfl⟩
  rw [hW0] at H0 hsz HB3 HB0 ⊢
  clear hW0
  refine wpIn_loop (JInv l b W.heap.size n cap A els J Mo W) (fun a _ => els.length - (intOf (a.tmps.getD 8 undef)).toNat) ?start ?round
  case start =>
    refine ⟨0, [], undef, undef, undef, undef, undef, undef, undef, undef, undef, undef, undef, undef, undef, undef, Nat.zero_le _, rfl, _, H0.out, fun i h => .inl h, .inr rfl, fun i h => by simp at h, ?_, KeepM.of_turn (TurnM.of_below (M := fun _ => False) HB0.out) (fun _ _ _ h => h), HB3.out, fun D h => by simp at h, by simp⟩
    rintro i (h | rfl)
    · have := HM.out i h; omega
    · omega
  case round =>
    rintro a Wr ⟨k, ds, u4, u5, u9, u10, u11, u12, u13, u14, u15, u16, u17, u18, u19, u20, hk, rfl, hbt⟩
    have HBt := Lib.hid hbt
    clear hbt
    by_cases hlt : k < els.length
    · obtain ⟨M, hj, hMo, hMb, hMd, hMl, hkp, hb2, hdd, hnd⟩ := HBt.out
      rcases HC.out with h | ⟨g, off, rfl, hg, hcc⟩
      · have := List.map_eq_nil_iff.1 h; subst this; simp at hlt
      have hne : els ≠ [] := fun e => by subst e; simp at hlt
      have hck : Wr.cell? ⟨g, off + k, none⟩ = some els[k].v := by
        have := hcc k (by simpa using hlt)
        rw [List.getElem_map] at this
        exact (World.cell?_of_block (w := W) (hkp.block g hg (.inr (.inl ⟨g, off, hne, rfl, rfl⟩)))).trans this
      have hmem : els[k] ∈ els := List.getElem_mem hlt
      have helk := HEl.out _ hmem
      have HJk := Lib.hid hj
      have HMo := Lib.hid hMo
      have HMd := Lib.hid hMd
      have HMl := Lib.hid hMl
      have HKP := Lib.hid hkp
      have HB2 := Lib.hid hb2
      have HDD := Lib.hid hdd
      have HND := Lib.hid hnd
      clear hj hMo hMd hMl hkp hb2 hdd hnd hcc HBt
      rcases helk with ⟨hnil, hxs⟩ | hsv
      · rw [hnil] at hck
        gi_wp2
        rw [show (k : Int) + 1 = ((k + 1 : Nat) : Int) from rfl]
        refine ⟨⟨k + 1, ds, _, _, _, _, _, _, _, _, _, _, _, _, _, _, by omega, rfl, M, by rw [flat_take_succ els k hlt, hxs, List.append_nil]; exact HJk.out, HMo.out, hMb, HMd.out, HMl.out, HKP.out, HB2.out, HDD.out, HND.out⟩, ?_⟩
        simp [intOf]
        omega
      · obtain ⟨hRs, gf, lb, hv, eg, hrun⟩ := hsv
        have HRun := Lib.hid hrun
        have HRs := Lib.hid hRs
        have EG := Lib.hid eg
        have hvn : els[k].v ≠ Value.nilFunc := by rw [hv]; intro e; cases e
        rw [hv] at hck
        clear hrun hRs eg
        gi_wp2
        have hWs := HKP.out.size
        have hdsM : ∀ i ∈ ds, i < Wr.heap.size := fun i h => HMl.out i (HMd.out i h)
        have HdsM := Lib.hid hdsM
        have hRk : ∀ i, els[k].R i → RJ b (some ⟨g, off, none⟩) els i := fun i h => .inr (.inr ⟨_, hmem, hvn, h⟩)
        have HRk := Lib.hid hRk
        clear hdsM hRk
        refine wpIn_rangeM (xs := els[k].xs) (R0 := els[k].R) (M0 := fun _ => False) rfl EG.out (fun W2 h2 => HRun.out W2 ((HKP.out.mono fun i _ h => HRk.out i h).trans (KeepM.of_turn (TurnM.of_below (M := fun _ => False) h2) (fun _ _ _ h => h)))) (fun i h => by have := HRs.out i h; omega) (fun _ h => h.elim) (fun _ => rfl)
          (JoinI l W.heap.size J (flat (els.take k)) M (RJ b (some ⟨g, off, none⟩) els) ds W Wr) (JoinX Jx (flat (els.take k)) M ds Wr) (joinI_stable l _ HJ.out _ _ _ _ _ _ HRlt.out HdsM.out) (fun c => joinX_stable HJx.out _ _ _ _ HdsM.out c) ?_
          (fun x a' _ => a' = { tmps := #[.func (.yield l) #[] #[], .pointer (some ⟨b, 0, none⟩), .pointer (some ⟨W.heap.size, 0, none⟩), undef, .func (.func gf) #[] lb, .string x, .slice (some ⟨g, off, none⟩) els.length cap, .int .i64 els.length, .int .i64 k, .bool true, .pointer (some ⟨g, off + k, none⟩), .func (.func gf) #[] lb, .func (.func gf) #[] lb, .bool false, .func (.func gf) #[] lb, .string x, u16, u17, u18, u19, u20], defers := [] }) (fun _ _ _ _ h _ => h) ?assign ?body ?done ?stop
        · refine ⟨?_, ⟨HB2.out, fun h => h⟩, ⟨HKP.out, fun _ _ h => h⟩, KeepM.refl _ _, fun _ _ h => h⟩
          rw [List.append_nil]
          exact HJ.out _ _ _ Wr Wr HJk.out (TurnM.refl _ _) (fun _ h => .inl h) (fun _ h => .inl (h.elim id False.elim))
        case assign =>
          intro m l2 pre x Mi Wb K hi hin hK
          have HK := Lib.hid hK
          have HI := Lib.hid hi
          clear hK hi
          gi_wp2
          exact HK.out _ _ (KeepM.refl _ _) HI.out rfl
        case body =>
          rintro m l2 pre x Mi a' Wb ⟨hj, ⟨hb, hnb⟩, ⟨hkp, hkn⟩, hkd, hnd⟩ hin rfl ⟨rest, hx⟩
          have hc3 : Wb.cell? ⟨W.heap.size, 0, none⟩ = some (.func (.yield l) #[] #[]) := by simp [World.cell?, hb]
          have hlM : ∀ i, M i ∨ Mi i → i < Wb.heap.size := by
            have := hkd.size
            rintro i (h | h)
            · have := HMl.out i h; omega
            · exact hin.lt i h
          obtain ⟨fn, tmps, assign, body, hy, hR⟩ := HY.out (flat (els.take k) ++ pre) x (fun i => M i ∨ Mi i) Wb hj (fun _ h => h.elim) hlM ⟨rest ++ flat (els.drop (k + 1)), by rw [flat_split els k hlt, hx]; simp⟩ (m - 1)
          have HRd := Lib.hid (roundIn_in (l2 := l2) hR)
          have HBb := Lib.hid hb
          have HKb := Lib.hid hkp
          have HKn := Lib.hid hkn
          have HKd := Lib.hid hkd
          have HNd := Lib.hid hnd
          have hmo : ∀ i, i < Wb.heap.size → (els[k].R i ∨ Mi i) → (RJ b (some ⟨g, off, none⟩) els i ∨ (M i ∨ Mi i)) := fun i _ h => h.elim (fun h => .inl (HRk.out i h)) (fun h => .inr (.inr h))
          have HMo2 := Lib.hid hmo
          clear hx hj hin hkp hkn hb hR hlM hkd hnd hmo
          gi_wp2
          refine HRd.out.mono ?_
          rintro e W3 (⟨rfl, hJ3, hk3⟩ | ⟨rfl, hJ3, hk3⟩)
          · have HJ3 := Lib.hid hJ3
            have HK3 := Lib.hid hk3
            clear hJ3 hk3
            gi_wp2
            exact ⟨HK3.out.mono HMo2.out, by rw [← List.append_assoc]; exact HJ3.out, ⟨(HK3.out.block _ (Array.getElem?_eq_some_iff.1 HBb.out).1 (.inr (.inl hMb))).trans HBb.out, hnb⟩, ⟨HKb.out.trans (HK3.out.mono fun i _ h => .inl h), HKn.out⟩, HKd.out.trans (HK3.out.mono fun i _ h => .inr (.inl (HMd.out i h))), HNd.out⟩
          · have HJ3 := Lib.hid hJ3
            have HK3 := Lib.hid hk3
            clear hJ3 hk3
            gi_wp2
            exact ⟨HK3.out.mono HMo2.out, rfl, by rw [← List.append_assoc]; exact HJ3.out, HKd.out.trans (HK3.out.mono fun i _ h => .inr (.inl (HMd.out i h))), HNd.out⟩
        case done =>
          rintro Mi Wb ⟨hj, ⟨hb, hnb⟩, ⟨hkp, hkn⟩, hkd, hnd⟩ hin hK
          have HJb := Lib.hid hj
          have HIn := Lib.hid hin
          have HK := Lib.hid hK
          have HBb := Lib.hid hb
          have HKb := Lib.hid hkp
          have HKd := Lib.hid hkd
          clear hj hin hK hkp hkn hb hkd hnd
          gi_wp2
          rw [show (k : Int) + 1 = ((k + 1 : Nat) : Int) from rfl]
          refine ⟨⟨k + 1, Wr.heap.size :: ds, _, _, _, _, _, _, _, _, _, _, _, _, _, _, by omega, rfl, fun i => M i ∨ Mi i, by rw [flat_take_succ els k hlt]; exact HJb.out, fun i h => .inl (HMo.out i h), .inl hMb, ?_, ?_, HKb.out, HBb.out, ?_, ?_⟩, ?_⟩
          · intro i hi
            rcases List.mem_cons.1 hi with rfl | h
            · exact .inr HIn.out.d
            · exact .inl (HMd.out i h)
          · have := HKd.out.size
            rintro i (h | h)
            · have := HMl.out i h; omega
            · exact HIn.out.lt i h
          · intro D hD
            rcases List.mem_cons.1 hD with rfl | h
            · exact HK.out
            · exact (HKd.out.block D (HdsM.out D h) h).trans (HDD.out D h)
          · refine List.nodup_cons.2 ⟨fun h => ?_, HND.out⟩
            have := HdsM.out _ h
            omega
          · simp [intOf]
            omega
        case stop =>
          rintro c pre Mi Wb hpre ⟨rfl, hj, hkd, hnd⟩ hin hK
          have HJb := Lib.hid hj
          have HIn := Lib.hid hin
          have HK := Lib.hid hK
          have HKd := Lib.hid hkd
          have HPre := Lib.hid hpre
          clear hj hin hK hkd hnd hpre
          gi_wp2
          refine leaves_marks rfl (Wr.heap.size :: ds) Wb ?_ ?_ (fun W' hT => ⟨⟨_, rfl⟩, fun i => M i ∨ Mi i, fun i h => .inl (HMo.out i h), ?_, .inr ⟨flat (els.take k) ++ pre, ?_, ?_⟩⟩)
          · intro D hD
            rcases List.mem_cons.1 hD with rfl | h
            · exact HK.out
            · exact (HKd.out.block D (HdsM.out D h) h).trans (HDD.out D h)
          · refine List.nodup_cons.2 ⟨fun h => ?_, HND.out⟩
            have := HdsM.out _ h
            omega
          · have := HKd.out.size
            have := hT.size
            rintro i (h | h)
            · have := HMl.out i h; omega
            · have := HIn.out.lt i h; omega
          · obtain ⟨r, hr⟩ := HPre.out
            exact ⟨r ++ flat (els.drop (k + 1)), by rw [flat_split els k hlt, ← hr]; simp⟩
          · refine HJx.out.turn HJb.out (hT.mono fun i _ h => ?_)
            rcases List.mem_cons.1 h with rfl | h
            · exact .inr HIn.out.d
            · exact .inl (HMd.out i h)
    · obtain rfl : k = els.length := by omega
      obtain ⟨M, hj, hMo, hMb, hMd, hMl, hkp, hb2, hdd, hnd⟩ := HBt.out
      have HJk := Lib.hid hj
      have HMo := Lib.hid hMo
      have HMd := Lib.hid hMd
      have HMl := Lib.hid hMl
      have HDD := Lib.hid hdd
      have HND := Lib.hid hnd
      clear hj hMo hMd hMl hkp hb2 hdd hnd HBt
      gi_wp2
      refine leaves_marks rfl ds Wr HDD.out HND.out (fun W' hT => ⟨⟨_, rfl⟩, M, HMo.out, fun i h => Nat.lt_of_lt_of_le (HMl.out i h) hT.size, .inl ?_⟩)
      have := HJ.out.turn HJk.out (hT.mono fun i _ h => HMd.out i h)
      rwa [List.take_length] at this

theorem info26 : (Tryd.prog.info? 32).map (fun i => (i.zero, i.size, i.bytes)) = some (some Value.nilFunc, 1, 8) := by kernel_rfl

theorem CellsV.keep {W W' : World} {A : Option Addr} {vs : List Value} (h : CellsV W A vs) {M : Fp} (hk : KeepM M W W') (hM : ∀ b off, vs ≠ [] → A = some ⟨b, off, none⟩ → M b) : CellsV W' A vs := by
  rcases h with rfl | ⟨b, off, rfl, hb, hc⟩
  · exact .inl rfl
  · by_cases hv : vs = []
    · exact .inl hv
    · exact .inr ⟨b, off, rfl, Nat.lt_of_lt_of_le hb hk.size, fun j hj => (World.cell?_of_block (w := W) (hk.block b hb (hM b off hv rfl))).trans (hc j hj)⟩
theorem cellsV_of_row {W : World} {n₀ : Nat} {A : Option Addr} {cap n : Nat} {vs : List Value} (h : W.ownsRow n₀ 32 1 (.slice A n cap) n vs) (hn : n = vs.length) : CellsV W A vs ∧ (∀ b off, A = some ⟨b, off, none⟩ → n₀ ≤ b ∧ b < W.heap.size) := by
  rcases h.2 with ⟨e, h0⟩ | ⟨g, cap', cur, e, hg, hh, hc1, hc2, hcs, htk⟩
  · cases e
    exact ⟨.inl (List.eq_nil_of_length_eq_zero (by omega)), fun b off e => by cases e⟩
  · cases e
    have hlt := (Array.getElem?_eq_some_iff.1 hh).1
    refine ⟨.inr ⟨g, 0, rfl, hlt, fun j hj => ?_⟩, fun b off e => by cases e; exact ⟨hg, hlt⟩⟩
    have h1 : (cur.toList.take (n * 1))[j]? = some vs[j] := by rw [htk]; simp [hj]
    rw [List.getElem?_take] at h1
    split at h1
    · simp [World.cell?, hh]; simpa using h1
    · cases h1

set_option maxHeartbeats 2000000 in
set_option maxRecDepth 100000 in
theorem cloneV_calls (w : World) (A : Option Addr) (cap : Nat) (vs : List Value) (hlen : vs.length ≤ 1000) (hz : CellsV w A vs) (hnil : A = none → vs = []) (h1 : ∀ u ∈ vs, u.oneCell' = true) :
    Calls Tryd.prog 32 #[.slice A vs.length cap] w fun e w' => ∃ A' cap', e = .returned (.slice A' vs.length cap') ∧ w'.ownsRow w.heap.size 32 1 (.slice A' vs.length cap') vs.length vs ∧ Below w.heap.size w w' := by
  obtain ⟨i0, hi, hz0, hz1, hz2⟩ := info_parts info26
  cases A with
  | none =>
    obtain rfl := hnil rfl
    have hn := fun (w : World) => Lib.run_eql_slice_nil (P := Tryd.prog) w 53 32 none 0 cap 0 0 Tryd.underlying53
    go_enter Tryd.func32, Tryd.ntmps32
    go_wp2
    go_ret
    exact ⟨_, _, rfl, World.ownsRow_nil _ _ _ _, Below.refl _ _⟩
  | some ad =>
    have HN : Hid (∀ (j : Nat) u, vs[j]? = some u → (w.alloc (.cells #[] 32)).cell? (ad.add j) = some u) := fun j u hu => by
      rcases hz with rfl | ⟨b, off, e, hb, hc⟩
      · simp at hu
      · cases e
        obtain ⟨hj, rfl⟩ := List.getElem?_eq_some_iff.1 hu
        rw [Addr.add_lit]
        exact (World.cell?_of_block (w := w) (Below.heap_alloc w _ _ hb)).trans (hc j hj)
    have hone : Hid (∀ u ∈ vs, u.oneCell' = true) := h1
    have hl1 : Hid (vs.length = vs.length * 1) := by show _ = _; simp
    clear hz hnil h1
    have hn := fun (w : World) => Lib.run_eql_slice_nil (P := Tryd.prog) w 53 32 (some ad) vs.length cap 0 0 Tryd.underlying53
    have hown := World.ownsRow_made (base := w.heap.size) (e := 32) (size := 1) w #[] 0 (Nat.le_refl _) (by decide) rfl
    go_enter Tryd.func32, Tryd.ntmps32
    go_wp2_with (at_builtin; refine wpList_append_own _ rfl _ _ 53 rfl w.heap.size 32 i0 Value.nilFunc 1 8 Tryd.underlying53 hi hz0 hz1 hz2 rfl (by decide) _ _ _ rfl hown ad vs.length cap vs rfl hl1.out HN.out hone.out (by unfold maxLen; omega) (by omega) (by simp) ?_; intro v' w1 hown' hgrow _; have HO := Lib.hid hown'; have HG := Lib.hid hgrow; clear hown' hgrow)
    go_ret
    have hh := HO.out
    simp only [Nat.zero_add, List.nil_append] at hh
    rcases hh.2 with ⟨rfl, h0⟩ | ⟨g, cap', cur, rfl, _⟩
    · have : vs = [] := List.eq_nil_of_length_eq_zero h0
      subst this
      exact ⟨_, _, rfl, hh, ((Below.refl _ w).alloc (Nat.le_refl _) _).grown HG.out (by simp) (fun k e => by cases e; exact Nat.le_refl _)⟩
    · exact ⟨_, _, rfl, hh, ((Below.refl _ w).alloc (Nat.le_refl _) _).grown HG.out (by simp) (fun k e => by cases e; exact Nat.le_refl _)⟩

theorem enters37 : ∀ args w, (callFunc 33 args).run Tryd.prog w = .ok (.enter 33 args) w := enters_of Tryd.func33 (by kernel_rfl) rfl
def JoinPost (w : World) (xs : List ByteArray) (e : Ending) (w' : World) : Prop := ∃ fv R, e = .returned fv ∧ SeqVS fv xs R w' ∧ Below w.heap.size w w'

set_option maxHeartbeats 2000000 in
set_option maxRecDepth 100000 in
theorem join_calls (w : World) (A : Option Addr) (n cap : Nat) (els : List El) (hn : n = els.length) (hlen : els.length ≤ 1000) (hz : CellsV w A (els.map El.v)) (hnil : A = none → els = []) (hel : ∀ e ∈ els, ElV w e) :
    Calls Tryd.prog 19 #[.slice A n cap] w (JoinPost w (flat els)) := by
  subst hn
  have hone : ∀ u ∈ els.map El.v, u.oneCell' = true := fun u hu => by
    obtain ⟨e, he, rfl⟩ := List.mem_map.1 hu
    rcases hel e he with ⟨h, _⟩ | ⟨_, g, lb, h, _⟩ <;> rw [h] <;> rfl
  have hcl := cloneV_calls w A cap (els.map El.v) (by simpa using hlen) hz (fun e => by rw [hnil e]; rfl) hone
  rw [List.length_map] at hcl
  have HCl := Lib.hid hcl
  have HEl := Lib.hid hel
  clear hz hnil hel hone hcl
  go_enter Tryd.func19, Tryd.ntmps19
  go_wp2_with fail
  refine HCl.out.mono ?_
  rintro e w1 ⟨A', cap', rfl, ho, hb⟩
  have HO := Lib.hid ho
  have HB := Lib.hid hb
  clear ho hb
  go_wp2_with fail
  go_ret
  obtain ⟨hc, hA⟩ := cellsV_of_row HO.out (by simp)
  have c1 := Boxed.new w1 53 (.slice A' els.length cap')
  have hB2 : Below w1.heap.size w1 (w1.alloc (.cells #[.slice A' els.length cap'] 53)) := (Below.refl _ w1).alloc (Nat.le_refl _) _
  have hs := HB.out.size
  have hB3 := HB.out.trans (hB2.mono hs)
  have hKw : KeepM (fun k => k < w.heap.size) w (w1.alloc (.cells #[.slice A' els.length cap'] 53)) := ⟨hB3.size, fun k hk _ => hB3.block k hk⟩
  have hel2 : ∀ e ∈ els, ElV (w1.alloc (.cells #[.slice A' els.length cap'] 53)) e := fun e he => by
    by_cases hne : e.v = Value.nilFunc
    · rcases HEl.out e he with h | h
      · exact .inl h
      · obtain ⟨_, g, lb, h2, _⟩ := h
        rw [hne] at h2; cases h2
    · exact (HEl.out e he).keep (hKw.mono fun k hk _ => hk)
  refine ⟨_, RJ w1.heap.size A' els, rfl, ⟨?_, 33, _, rfl, enters37, fun W2 hk => ?_⟩, hB3⟩
  · rintro k (rfl | ⟨b, off, _, e, rfl⟩ | ⟨e, he, hne, h⟩)
    · simp
    · have := (hA _ _ e).2; simp; omega
    · exact (hel2 e he).lt hne k h
  · refine join1 w1.heap.size A' cap' els hlen W2 ((hk.block _ c1.lt (.inl rfl)).trans c1) ?_ (fun e he => ?_)
    · have hc2 : CellsV (w1.alloc (.cells #[.slice A' els.length cap'] 53)) A' (els.map El.v) := hc.keep (M := fun _ => True) ⟨hB2.size, fun k hk _ => hB2.block k hk⟩ (fun _ _ _ _ => trivial)
      exact hc2.keep hk (fun b off hv e => .inr (.inl ⟨b, off, fun h => hv (by rw [h]; rfl), e, rfl⟩))
    · by_cases hne : e.v = Value.nilFunc
      · rcases hel2 e he with h | h
        · exact .inl h
        · obtain ⟨_, g, lb, h2, _⟩ := h
          rw [hne] at h2; cases h2
      · exact (hel2 e he).keep (hk.mono fun k _ h => .inr (.inr ⟨e, he, hne, h⟩))
end Go.Proofs.YtnagjilogadinaaDoor.SeqK
