/- commit.Decode: the deferred closure and the whole, walked. No condition. -/
import Derived.Test.YtoncdfpohdchgaaDoorDf
import Derived.Test.YtoncdfpohdchgaaDoorRc
import Derived.WideLaws
set_option linter.unusedSimpArgs false
set_option linter.unusedVariables false
namespace Go.Proofs.YtoncdfpohdchgaaDoor
open Go.RowKit Go.Fw Go.Pl
abbrev comZ : List Value := comC (.slice none 0 0) (bs []) (bs []) (.slice none 0 0)
theorem build_apiCommit (w : World) : (Instr.build 76 #[]).run Tryd.prog w = .ok (.agg comZ.toArray) w := by kernel_rfl
theorem Y.neq_held {P : Program} {n : NN} {fr : Fr} {w : World} {ty : TypeId} {x y : Operand} {t t' u : TypeId} {v : Value} (h : P.underlying t = some (.interface (P.methodsAt t))) (hx : ev fr x = some (.iface u v)) (hy : ev fr y = some .nilIface) : Yw P n fr (.binOp .neq t x y t') ty w (.bool true) w :=
  Y.bin hx hy (by simp [eqGuard]) (run_neq_held_nil w t u v h)
theorem Y.neq_nils {P : Program} {n : NN} {fr : Fr} {w : World} {ty : TypeId} {x : Operand} {t t' : TypeId} (h : P.underlying t = some (.interface (P.methodsAt t))) (hx : ev fr x = some .nilIface) : Yw P n fr (.binOp .neq t x (.const .nilIface) t') ty w (.bool false) w :=
  Y.bin hx rfl (by simp [eqGuard]) (run_neq_nil_nil w t h)
theorem Y.assertOk {P : Program} {n : NN} {fr : Fr} {w : World} {ty : TypeId} {x : Operand} {t xt : TypeId} {v : Value} {k : IntKind} (hT : P.underlying t = some (.int k)) (hx : ev fr x = some (.iface t v)) : Yw P n fr (.typeAssert x xt t true) ty w (.tuple #[v, .bool true]) w := fun b o' ho _ ha => by
  simp [execOp, ho, ha.ev hx, Instr.typeAssert, run_underlying hT]
theorem any_under : Tryd.prog.underlying 20 = some (.interface (Tryd.prog.methodsAt 20)) := by kernel_rfl
theorem catch_pan (gc ge : Nat) (cs : List Value) (v0 : Value) (e : Int) (older : List PanicEntry) (w : World) (hC : Blk w gc 76 cs) (hcl : cs.length = 4) (hE : Blk w ge 23 [v0]) (hne : gc ≠ ge) :
    CallsD Tryd.prog 54 #[.pointer (some ⟨gc, 0, none⟩), .pointer (some ⟨ge, 0, none⟩)] (.panicking ({ v := .iface 23 (.int .i64 e), recovered := false } :: older)) w fun r u' w' =>
      r = .returned (.tuple #[]) ∧ u' = .panicking ({ v := .iface 23 (.int .i64 e), recovered := true } :: older) ∧ Chg (fun k => k = gc ∨ k = ge) w w' ∧ Blk w' gc 76 comZ ∧ Blk w' ge 23 [.int .i64 e] := by
  refine callsD_of_wpS Tryd.func54 rfl fun c₀ ks hu => ?_
  apply wpS_seq
  apply wpS_region
  simp [wpOpsS, go_sem, recoverD, hu, Tryd.ntmps54, Exit.thenS]
  refine wpS_of_wp (CW.wp (n := (18, [], none)) (fr := [(0, .pointer (some ⟨gc, 0, none⟩)), (1, .pointer (some ⟨ge, 0, none⟩)), (2, .iface 23 (.int .i64 e))]) (Φ := DoneG (fun _ w' => Chg (fun k => k = gc ∨ k = ge) w w' ∧ Blk w' gc 76 comZ ∧ Blk w' ge 23 [.int .i64 e]) (fun _ _ => False)) ?_ ?_ ?_)
  · refine CW.seq fun K1 hK1 => ?_
    refine CW.region ?_
    refine WL.val (Y.move rfl) (by decide) ?_
    refine WL.val (Y.neq_held any_under rfl rfl) (by decide) ?_
    refine WL.nil ?_
    refine hK1 _ _ ?_
    refine CW.condT rfl ?_
    refine CW.seq fun K2 hK2 => ?_
    refine CW.region ?_
    refine WL.val (Y.move rfl) (by decide) ?_
    refine WL.val (Y.assertOk Tryd.underlying23 rfl) (by decide) ?_
    refine WL.val (Y.move rfl) (by decide) ?_
    refine WL.val (Y.extract rfl rfl) (by decide) ?_
    refine WL.val (Y.extract rfl rfl) (by decide) ?_
    refine WL.val (Y.assign rfl) (by decide) ?_
    refine WL.val (Y.assign rfl) (by decide) ?_
    refine WL.nil ?_
    refine hK2 _ _ ?_
    refine CW.seq fun K3 hK3 => ?_
    refine CW.seq fun K4 hK4 => ?_
    refine CW.region ?_
    refine WL.val (Y.move rfl) (by decide) ?_
    refine WL.val (Y.not rfl) (by decide) ?_
    refine WL.nil ?_
    refine hK4 _ _ ?_
    refine CW.condF rfl ?_
    refine CW.skip ?_
    refine hK3 _ _ ?_
    refine CW.region ?_
    refine WL.val (Y.build0 (build_apiCommit _)) (by decide) ?_
    refine WL.val (Y.move rfl) (by decide) ?_
    refine WL.store (g := gc) (pre := []) (old := cs) (post := []) (new := comZ) rfl rfl rfl rfl (sz_apiCommit _ _ _ _) (by simpa using hC) (by rw [hcl]; rfl) (by intro u hu; simp [comZ, comC] at hu; rcases hu with rfl | rfl | rfl | rfl <;> rfl) (fun w1 hc1 hB1 => ?_)
    refine WL.store (g := ge) (pre := []) (old := [v0]) (post := []) (new := [.int .i64 e]) rfl rfl rfl rfl (by kernel_rfl) (hE.chg hc1 (fun h => hne h.symm)) rfl (one1 rfl) (fun w2 hc2 hB2 => ?_)
    refine WL.nil ?_
    refine ⟨(hc1.mono fun _ _ h => .inl h).trans hc2 (fun _ _ h => .inr h), ?_, by simpa using hB2⟩
    have hB1 : Blk w1 gc 76 comZ := by simpa using hB1
    exact hB1.chg hc2 hne
  · refine ⟨by simp, rfl, fun t v h => ?_⟩
    have h := args3 t v h
    match t, h with
    | 0, h => simpa using h
    | 1, h => simpa using h
    | 2, h => simpa using h
    | t + 3, h => simp at h
  · intro e' f a' w' hr hp
    cases e' with
    | normal => exact ⟨hr.defers, _, rfl, _, run_results (ts := []) hr rfl rfl w', rfl, rfl, hp⟩
    | ret => exact ⟨hr.defers, _, rfl, _, run_results (ts := []) hr rfl rfl w', rfl, rfl, hp⟩
    | exit id => exact hp.elim
    | goto l => exact hp.elim
    | panic ch => exact hp.elim
    | outgrown => exact hp.elim
theorem catch_idle (pc pe : Value) (w : World) :
    CallsD Tryd.prog 54 #[pc, pe] .returning w fun r u' w' => r = .returned (.tuple #[]) ∧ u' = .returning ∧ w' = w := by
  refine callsD_of_wpS Tryd.func54 rfl fun c₀ ks hu => ?_
  apply wpS_seq
  apply wpS_region
  simp [wpOpsS, go_sem, recoverD, hu, Tryd.ntmps54, Exit.thenS]
  refine wpS_of_wp (CW.wp (n := (18, [], none)) (fr := [(0, pc), (1, pe), (2, .nilIface)]) (Φ := DoneG (fun _ w' => w' = w) (fun _ _ => False)) ?_ ?_ ?_)
  · refine CW.seq fun K1 hK1 => ?_
    refine CW.region ?_
    refine WL.val (Y.move rfl) (by decide) ?_
    refine WL.val (Y.neq_nils any_under rfl) (by decide) ?_
    refine WL.nil ?_
    refine hK1 _ _ ?_
    refine CW.condF rfl ?_
    exact CW.skip rfl
  · refine ⟨by simp, rfl, fun t v h => ?_⟩
    have h := args3 t v h
    match t, h with
    | 0, h => simpa using h
    | 1, h => simpa using h
    | 2, h => simpa using h
    | t + 3, h => simp at h
  · intro e' f a' w' hr hp
    have hc : ({ c₀ with mode := .returning } : Frame) = c₀ := by subst_vars; cases c₀; simp_all
    cases e' with
    | normal => exact ⟨hr.defers, .returning, by rw [hc], _, run_results (ts := []) hr rfl rfl w', rfl, rfl, hp⟩
    | ret => exact ⟨hr.defers, .returning, by rw [hc], _, run_results (ts := []) hr rfl rfl w', rfl, rfl, hp⟩
    | exit id => exact hp.elim
    | goto l => exact hp.elim
    | panic ch => exact hp.elim
    | outgrown => exact hp.elim
theorem build_place (A : Option Addr) (m c : Nat) (w : World) : (Instr.build 109 [(0, Value.slice A m c)].toArray).run Tryd.prog w = .ok (.agg #[Value.slice A m c, .int .i64 0]) w := run_build w _ _ _ (by kernel_rfl)
theorem build_reader (A : Option Addr) (m c : Nat) (w : World) : (Instr.build 111 [(0, Value.agg #[Value.slice A m c, .int .i64 0])].toArray).run Tryd.prog w = .ok (.agg (rdC (.slice A m c) ((0 : Nat) : Int) (.slice none 0 0) (bs []) (bs []) (.slice none 0 0)).toArray) w := run_build w _ _ _ (by kernel_rfl)
theorem info_com : ∃ i : TypeInfo, Tryd.prog.info? 76 = some i ∧ i.zero = some (.agg comZ.toArray) := by
  have h : (Tryd.prog.info? 76).map (fun i => i.zero) = some (some (.agg comZ.toArray)) := by kernel_rfl
  obtain ⟨i, hi, h⟩ := Option.map_eq_some_iff.1 h
  exact ⟨i, hi, h⟩
theorem info_err : ∃ i : TypeInfo, Tryd.prog.info? 23 = some i ∧ i.zero = some (.int .i64 0) := by
  have h : (Tryd.prog.info? 23).map (fun i => i.zero) = some (some (.int .i64 0)) := by kernel_rfl
  obtain ⟨i, hi, h⟩ := Option.map_eq_some_iff.1 h
  exact ⟨i, hi, h⟩
abbrev rdZ : List Value := rdC (.slice none 0 0) 0 (.slice none 0 0) (bs []) (bs []) (.slice none 0 0)
theorem info_rd : ∃ i : TypeInfo, Tryd.prog.info? 111 = some i ∧ i.zero = some (.agg rdZ.toArray) ∧ i.size = 6 := by
  have h : (Tryd.prog.info? 111).map (fun i => (i.zero, i.size)) = some (some (.agg rdZ.toArray), 6) := by kernel_rfl
  obtain ⟨i, hi, h⟩ := Option.map_eq_some_iff.1 h
  injection h with h1 h2
  exact ⟨i, hi, h1, h2⟩
theorem dec_res {gc ge : Nat} {a : Act} {n : NN} {fr : Fr} {w : World} {pv ov v : Value} {au no : ByteArray} (hr : Rep n a fr) (h2 : fr.get 2 = some (.pointer (some ⟨gc, 0, none⟩))) (h3 : fr.get 3 = some (.pointer (some ⟨ge, 0, none⟩))) (hC : Blk w gc 76 (comC pv au no ov)) (hE : Blk w ge 23 [v]) :
    (results Tryd.f38 a.tmps).run Tryd.prog w = .ok (.tuple #[.agg (comC pv au no ov).toArray, v]) w := by
  have e2 := hr.get 2 _ h2
  have e3 := hr.get 3 _ h3
  have l1 := run_loadVarA (P := Tryd.prog) Tryd.underlying76 rfl (sz_apiCommit pv ov au no) hC.mem
  have l2 := run_loadVar1 (P := Tryd.prog) (w := w) (a := ⟨ge, 0, none⟩) (v := v) Tryd.underlying23 rfl hE.mem.cell0
  simp [results, Tryd.results38, e2, e3, asAddr, l1, l2]
def decE (b : List UInt8) : Int := if 131072 < b.length then 3 else match decI b with | .error e => e | .ok _ => 0
def decC (b : List UInt8) : ComD := if 131072 < b.length then ⟨[], bs [], bs [], []⟩ else match decI b with | .error _ => ⟨[], bs [], bs [], []⟩ | .ok c => c
/-- What Decode hands back: a commit in memory of its own. -/
def DecR (b : List UInt8) (w : World) (v : Value) (w' : World) : Prop := ∃ pv ov, v = .tuple #[.agg (comC pv (decC b).author (decC b).note ov).toArray, .int .i64 (decE b)] ∧ Ext w w' ∧ Sl w' digC 32 pv (decC b).parents ∧ Sl w' opC 37 ov (decC b).ops ∧
  (∀ k, pv.ownBlock = some k → w.heap.size ≤ k) ∧ (∀ k, ov.ownBlock = some k → w.heap.size ≤ k)
theorem DecR.zero {b : List UInt8} {w w' : World} {v : Value} {e : Int} (hc : decC b = ⟨[], bs [], bs [], []⟩) (he : decE b = e) (hx : Ext w w') (hv : v = .tuple #[.agg comZ.toArray, .int .i64 e]) : DecR b w v w' := by
  refine ⟨.slice none 0 0, .slice none 0 0, ?_, hx, ?_, ?_, fun k h => by simp [Value.ownBlock] at h, fun k h => by simp [Value.ownBlock] at h⟩
  · rw [hv, hc, he]
  · rw [hc]; exact Sl.nil
  · rw [hc]; exact Sl.nil
theorem one_comZ : ∀ u ∈ comZ, u.oneCell' = true := by intro u hu; simp [comZ, comC] at hu; rcases hu with rfl | rfl | rfl | rfl <;> rfl
theorem one_com {A B : Option Addr} {m c n d : Nat} {au no : ByteArray} : ∀ u ∈ comC (.slice A m c) au no (.slice B n d), u.oneCell' = true := by intro u hu; simp [comC] at hu; rcases hu with rfl | rfl | rfl | rfl <;> rfl
theorem one_rd {A B C : Option Addr} {m c n d p q : Nat} {au no : ByteArray} {i : Int} : ∀ u ∈ rdC (.slice A m c) i (.slice B n d) au no (.slice C p q), u.oneCell' = true := by intro u hu; simp [rdC, comC] at hu; rcases hu with rfl | rfl | rfl | rfl | rfl | rfl <;> rfl
theorem by_lt {w : World} {v : Value} {b : List UInt8} {g : Nat} (hb : By w v b) (hg : w.heap.size ≤ g) : b ≠ [] → ∀ k, v.ownBlock = some k → k ≠ g := by
  intro hne k hk
  obtain ⟨A, m, c, rfl, hl, _, _, hA, _⟩ := hb
  obtain ⟨a, rfl, hm⟩ := hA (by rw [← hl]; exact List.length_pos_iff.2 hne)
  have := hm.lt (by intro h; exact hne (by simpa [bytesC] using h))
  simp [Value.ownBlock] at hk
  omega
/-- Decode's body was given up. -/
abbrev DecS (b : List UInt8) (gc ge : Nat) (w : World) (ch : List PanicEntry) (w' : World) : Prop := ∃ e, decI b = .error e ∧ ch = pan e ∧ Ext w w' ∧ Blk w' gc 76 comZ ∧ Blk w' ge 23 [.int .i64 0]
@[reducible] def DoneF (g : Fr) (D : Fr → World → Prop) (S : List PanicEntry → World → Prop) : Exit → Fr → World → Prop
  | .normal, fr, w => D fr w
  | .ret, fr, w => D fr w
  | .panic ch, fr, w => Fr.le g fr ∧ S ch w
  | _, _, _ => False
theorem decode_any (bv : Value) (b : List UInt8) (w : World) (hb : By w bv b) : Calls Tryd.prog 38 #[bv] w (Ret (DecR b w)) := by
  obtain ⟨ic, hic, hzc⟩ := info_com
  obtain ⟨ie, hie, hze⟩ := info_err
  obtain ⟨ir, hir, hzr, hsr⟩ := info_rd
  have hb0 := hb
  obtain ⟨A, m, c, rfl, hl, hmc, hcm, _, _⟩ := hb0
  refine calls_of_wp_defers Tryd.func38 rfl ?_
  have ha : Rep (16, [], none) { tmps := #[Value.slice A m c] ++ Array.replicate (Tryd.f38.ntmps - #[Value.slice A m c].size) undef, defers := [] } [(0, .slice A m c)] := by
    refine ⟨rfl, rfl, fun t v h => ?_⟩
    have h := args1 t v h
    match t, h with
    | 0, h => simpa using h
    | t + 1, h => simp at h
  generalize ({ tmps := #[Value.slice A m c] ++ Array.replicate (Tryd.f38.ntmps - #[Value.slice A m c].size) undef, defers := [] } : Act) = a0 at ha ⊢
  refine wp_seq (CW.wp (Φ := fun e f w' => e = .normal ∧ ∃ gc ge, Fr.le [(0, .slice A m c), (2, .pointer (some ⟨gc, 0, none⟩)), (3, .pointer (some ⟨ge, 0, none⟩))] f ∧ Ext w w' ∧ w.heap.size ≤ gc ∧ gc < ge ∧ Blk w' gc 76 comZ ∧ Blk w' ge 23 [.int .i64 0]) ?_ ha ?_)
  · refine CW.region ?_
    refine WL.alloc hic hzc rfl (by decide) fun gc w1 hx1 hg1 hB1 => ?_
    refine WL.alloc hie hze rfl (by decide) fun ge w2 hx2 hg2 hB2 => ?_
    refine WL.nil ?_
    exact ⟨rfl, gc, ge, (by repeat (first | exact Fr.le.nil | refine Fr.le.cons rfl ?_)), hx1.thenExt hx2, hg1, Nat.lt_of_lt_of_le hB1.lt hg2, hB1.ext hx2, hB2⟩
  rintro e f a1 w1 hr ⟨rfl, gc, ge, hle, hx1, hg1, hlt, hC, hE⟩
  have hr := hr.weaken hle
  show Code.wp _ _ _ _ _
  refine wp_seq (CW.wp (Φ := fun e f w' => (e = .ret ∧ 131072 < m ∧ Fr.le [(2, .pointer (some ⟨gc, 0, none⟩)), (3, .pointer (some ⟨ge, 0, none⟩))] f ∧ Ext w w' ∧ Blk w' gc 76 comZ ∧ Blk w' ge 23 [.int .i64 3]) ∨
    (e = .normal ∧ ¬ 131072 < m ∧ w' = w1 ∧ Fr.le [(0, .slice A m c), (2, .pointer (some ⟨gc, 0, none⟩)), (3, .pointer (some ⟨ge, 0, none⟩))] f)) ?_ hr ?_)
  · refine CW.seq fun K1 hK1 => ?_
    refine CW.region ?_
    refine WL.val (Y.move rfl) (by decide) ?_
    refine WL.val (Y.len_slice Tryd.underlying33 rfl) (by decide) ?_
    refine WL.val (Y.gtr rfl rfl) (by decide) ?_
    refine WL.nil ?_
    refine hK1 _ _ ?_
    refine CW.condD rfl (fun h => ?_) (fun h => ?_)
    · refine CW.seq fun K2 hK2 => ?_
      refine CW.region ?_
      refine WL.val (Y.build0 (build_apiCommit _)) (by decide) ?_
      refine WL.store (g := gc) (pre := []) (old := comZ) (post := []) (new := comZ) rfl rfl rfl rfl (sz_apiCommit _ _ _ _) (by simpa using hC) rfl one_comZ (fun w2 hc2 hB2 => ?_)
      refine WL.store (g := ge) (pre := []) (old := [.int .i64 0]) (post := []) (new := [.int .i64 3]) rfl rfl rfl rfl (by kernel_rfl) (hE.chg hc2 (fun h => by omega)) rfl (one1 rfl) (fun w3 hc3 hB3 => ?_)
      refine WL.nil ?_
      refine hK2 _ _ ?_
      refine CW.ret (.inl ⟨rfl, by omega, (by repeat (first | exact Fr.le.nil | refine Fr.le.cons rfl ?_)), ?_, ?_, by simpa using hB3⟩)
      · exact (((Ext.chg hx1).trans hc2 (fun _ _ h => .inl h)).trans hc3 (fun _ _ h => .inr h) : Chg (fun k => k = gc ∨ k = ge) w w3).toExt fun i hi h => by omega
      · have hB2 : Blk w2 gc 76 comZ := by simpa using hB2
        exact hB2.chg hc3 (fun h => by omega)
    · exact CW.skip (.inr ⟨rfl, by omega, rfl, (by repeat (first | exact Fr.le.nil | refine Fr.le.cons rfl ?_))⟩)
  rintro e f a2 w2 hr (⟨rfl, hm, hle, hx2, hC2, hE2⟩ | ⟨rfl, hm, rfl, hle⟩)
  · have hr := hr.weaken hle
    show Leaves _ _ _ _ _ _ _
    rw [hr.defers]
    exact ⟨_, dec_res hr rfl rfl hC2 hE2, DecR.zero (by rw [decC, if_pos (by omega)]) (by rw [decE, if_pos (by omega)]) hx2 rfl⟩
  have hr := hr.weaken hle
  show Code.wp _ _ _ _ _
  refine wp_defer hr rfl (by decide) fun a3 hr3 => ?_
  refine CW.wp (Φ := DoneF [(2, .pointer (some ⟨gc, 0, none⟩)), (3, .pointer (some ⟨ge, 0, none⟩))] (fun f w' => ∃ pv ov, Fr.le [(2, .pointer (some ⟨gc, 0, none⟩)), (3, .pointer (some ⟨ge, 0, none⟩))] f ∧ (∃ cm, decI b = .ok cm ∧ Blk w' gc 76 (comC pv cm.author cm.note ov) ∧ Sl w' digC 32 pv cm.parents ∧ Sl w' opC 37 ov cm.ops) ∧ Ext w w' ∧ Blk w' ge 23 [.int .i64 0] ∧ (∀ k, pv.ownBlock = some k → w.heap.size ≤ k) ∧ (∀ k, ov.ownBlock = some k → w.heap.size ≤ k))
    (DecS b gc ge w)) ?_ hr3 ?_
  · refine CW.seq fun K1 hK1 => ?_
    refine CW.region ?_
    refine WL.val (Y.move rfl) (by show _ < 16; decide) ?_
    refine WL.val (Y.build rfl (build_place _ _ _ _)) (by show _ < 16; decide) ?_
    refine WL.val (Y.build rfl (build_reader _ _ _ _)) (by show _ < 16; decide) ?_
    refine WL.allocStore (zs := rdZ) (cs := rdC (.slice A m c) ((0 : Nat) : Int) (.slice none 0 0) (bs []) (bs []) (.slice none 0 0)) hir hzr rfl (by rw [hsr]; rfl) rfl rfl (by simp) rfl one_rd (by show _ < 16; decide) fun g4 w3 hx3 hg4 hB4 => ?_
    refine WL.nil ?_
    refine hK1 _ _ ?_
    refine CW.seq fun K2 hK2 => ?_
    refine CW.region ?_
    have hs1 := hx1.size
    have hs2 := hC.lt
    have hs3 := hE.lt
    have hb3 := (hb.ext hx1).ext hx3
    refine WL.callOr Tryd.func55 rfl rfl rfl (pcommit_any g4 _ b _ hB4 hb3 (by_lt hb (by omega))) (by simp) (fun ch w4 hP4 => ?_) ?_
    · obtain ⟨e, h1, rfl, hc⟩ := hP4
      show Fr.le _ _ ∧ DecS b gc ge w (pan e) w4
      exact ⟨(by repeat (first | exact Fr.le.nil | refine Fr.le.cons rfl ?_)), e, h1, rfl, ((Ext.chg (hx1.thenExt hx3)).trans hc (fun _ _ h => h)).toExt (fun i hi h => by omega), (hC.ext hx3).chg hc (fun h => by omega), (hE.ext hx3).chg hc (fun h => by omega)⟩
    rintro v w4 ⟨rfl, cm, pv, ov, hd, hR⟩
    have hB := hR.blk
    have hcc := hR.chg
    have hC4 := (hC.ext hx3).chg hcc (fun h => by omega)
    have hE4 := (hE.ext hx3).chg hcc (fun h => by omega)
    refine WL.nil ?_
    refine hK2 _ _ ?_
    refine CW.seq fun K3 hK3 => ?_
    refine CW.region ?_
    refine WL.val (Y.fieldAddr fo_commitreader1 rfl) (by show _ < 16; decide) ?_
    refine WL.val (Y.load Tryd.underlying76 rfl hB.mem.reader1 (sz_apiCommit _ _ _ _) rfl) (by show _ < 16; decide) ?_
    obtain ⟨A5, m5, c5, hpv⟩ := hR.ownP.lens
    obtain ⟨A6, m6, c6, hov⟩ := hR.ownO.lens
    refine WL.store (g := gc) (pre := []) (old := comZ) (post := []) (new := comC pv cm.author cm.note ov) rfl rfl rfl rfl (sz_apiCommit _ _ _ _) (by simpa using hC4) rfl (by subst hpv; subst hov; exact one_com) (fun w5 hc5 hB5 => ?_)
    refine WL.store (g := ge) (pre := []) (old := [.int .i64 0]) (post := []) (new := [.int .i64 0]) rfl rfl rfl rfl (by kernel_rfl) (hE4.chg hc5 (fun h => by omega)) rfl (one1 rfl) (fun w6 hc6 hB6 => ?_)
    refine WL.nil ?_
    refine hK3 _ _ ?_
    have hs4 := hx3.size
    have hs5 := hcc.size
    have hB5 : Blk w5 gc 76 (comC pv cm.author cm.note ov) := by simpa using hB5
    have hnp := hR.newP
    have hno := hR.newO
    refine CW.ret ⟨pv, ov, (by repeat (first | exact Fr.le.nil | refine Fr.le.cons rfl ?_)), ⟨cm, hd, hB5.chg hc6 (fun h => by omega), ?_, ?_⟩, ?_, by simpa using hB6, fun k hk => by have := hnp k hk; omega, fun k hk => by have := hno k hk; omega⟩
    · exact ((hR.ownP.chg hc5 (fun k hk h => by have := hnp k hk; omega)).chg hc6 (fun k hk h => by have := hnp k hk; omega)).sl (fun x => digC_length x) (by decide)
    · exact ((hR.ownO.chg hc5 (fun k hk h => by have := hno k hk; omega)).chg hc6 (fun k hk h => by have := hno k hk; omega)).sl (fun x => opC_length x) (by decide)
    · exact ((((Ext.chg (hx1.thenExt hx3)).trans hcc (fun _ _ h => .inl h)).trans hc5 (fun _ _ h => .inr (.inl h))).trans hc6 (fun _ _ h => .inr (.inr h)) : Chg (fun k => k = g4 ∨ k = gc ∨ k = ge) w w6).toExt fun i hi h => by omega
  intro e f a4 w4 hr4 hp
  cases e with
  | ret =>
    obtain ⟨pv, ov, hle, ⟨cm, hd, hCc, hsp, hso⟩, hx, hEe, hnp, hno⟩ := hp
    have hr5 := hr4.weaken hle
    show Leaves _ _ _ _ _ _ _
    rw [hr5.defers]
    refine leaves_cons (f := 54) (args := #[.pointer (some ⟨gc, 0, none⟩), .pointer (some ⟨ge, 0, none⟩)]) (by simp) (by simp [go_sem]) ?_
    refine (catch_idle _ _ w4).mono ?_
    rintro r u' w5 ⟨rfl, rfl, rfl⟩
    have hcc : decC b = cm := by rw [decC, if_neg (by omega), hd]
    have hee : decE b = 0 := by rw [decE, if_neg (by omega), hd]
    exact ⟨_, dec_res hr5 rfl rfl hCc hEe, pv, ov, by rw [hcc, hee], hx, by rw [hcc]; exact hsp, by rw [hcc]; exact hso, hnp, hno⟩
  | normal =>
    obtain ⟨pv, ov, hle, ⟨cm, hd, hCc, hsp, hso⟩, hx, hEe, hnp, hno⟩ := hp
    have hr5 := hr4.weaken hle
    show Leaves _ _ _ _ _ _ _
    rw [hr5.defers]
    refine leaves_cons (f := 54) (args := #[.pointer (some ⟨gc, 0, none⟩), .pointer (some ⟨ge, 0, none⟩)]) (by simp) (by simp [go_sem]) ?_
    refine (catch_idle _ _ w4).mono ?_
    rintro r u' w5 ⟨rfl, rfl, rfl⟩
    have hcc : decC b = cm := by rw [decC, if_neg (by omega), hd]
    have hee : decE b = 0 := by rw [decE, if_neg (by omega), hd]
    exact ⟨_, dec_res hr5 rfl rfl hCc hEe, pv, ov, by rw [hcc, hee], hx, by rw [hcc]; exact hsp, by rw [hcc]; exact hso, hnp, hno⟩
  | panic ch =>
    obtain ⟨hle, e, hd, rfl, hx, hC4, hE4⟩ := hp
    have hr5 := hr4.weaken hle
    show Leaves _ _ _ _ _ _ _
    rw [hr5.defers]
    refine leaves_cons (f := 54) (args := #[.pointer (some ⟨gc, 0, none⟩), .pointer (some ⟨ge, 0, none⟩)]) (by simp) (by simp [go_sem]) ?_
    refine (catch_pan gc ge comZ _ e [] w4 hC4 rfl hE4 (by omega)).mono ?_
    rintro r u' w5 ⟨rfl, rfl, hcg, hC5, hE5⟩
    have hcc : decC b = ⟨[], bs [], bs [], []⟩ := by rw [decC, if_neg (by omega), hd]
    have hee : decE b = e := by rw [decE, if_neg (by omega), hd]
    show ∃ v, _
    exact ⟨_, dec_res hr5 rfl rfl hC5 hE5, DecR.zero hcc hee (((Ext.chg hx).trans hcg (fun _ _ h => h)).toExt (fun i hi h => by omega)) rfl⟩
  | exit id => exact hp.elim
  | goto l => exact hp.elim
  | outgrown => exact hp.elim

end Go.Proofs.YtoncdfpohdchgaaDoor
