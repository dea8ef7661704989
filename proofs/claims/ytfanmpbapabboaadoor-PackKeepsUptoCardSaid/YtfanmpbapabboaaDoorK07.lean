/- Parts of a proof: what its last text leans on. No condition. -/
import Derived.WideLaws
import Derived.Great.BuildSlice
import Derived.Lib.SlBytesConst
import Derived.Test.YtfanmpbapabboaaDoorK04
import Derived.Test.YtfanmpbapabboaaDoorK06
set_option linter.unusedSimpArgs false
set_option linter.unusedVariables false
/- commit.Decode: the deferred closure and the whole, walked. No condition. -/
namespace Go.Proofs.YtfanmpbapabboaaDoor
open Go.RowKit Go.Fw Go.Pl
abbrev comZ : List Value := comC (.slice none 0 0) (bs []) (bs []) (.slice none 0 0)
theorem build_apiCommit (w : World) : (Instr.build 46 #[]).run Tryd.prog w = .ok (.agg comZ.toArray) w := by kernel_rfl
theorem Y.neq_held {P : Program} {n : NN} {fr : Fr} {w : World} {ty : TypeId} {x y : Operand} {t t' u : TypeId} {v : Value} (h : P.underlying t = some (.interface (P.methodsAt t))) (hx : ev fr x = some (.iface u v)) (hy : ev fr y = some .nilIface) : Yw P n fr (.binOp .neq t x y t') ty w (.bool true) w :=
 Y.bin hx hy (by simp [eqGuard]) (run_neq_held_nil w t u v h)
theorem Y.neq_nils {P : Program} {n : NN} {fr : Fr} {w : World} {ty : TypeId} {x : Operand} {t t' : TypeId} (h : P.underlying t = some (.interface (P.methodsAt t))) (hx : ev fr x = some .nilIface) : Yw P n fr (.binOp .neq t x (.const .nilIface) t') ty w (.bool false) w :=
 Y.bin hx rfl (by simp [eqGuard]) (run_neq_nil_nil w t h)
theorem Y.assertOk {P : Program} {n : NN} {fr : Fr} {w : World} {ty : TypeId} {x : Operand} {t xt : TypeId} {v : Value} {k : IntKind} (hT : P.underlying t = some (.int k)) (hx : ev fr x = some (.iface t v)) : Yw P n fr (.typeAssert x xt t true) ty w (.tuple #[v, .bool true]) w := fun b o' ho _ ha => by
 simp [execOp, ho, ha.ev hx, Instr.typeAssert, run_underlying hT]
theorem any_under : Tryd.prog.underlying 20 = some (.interface (Tryd.prog.methodsAt 20)) := by kernel_rfl
theorem catch_pan (gc ge : Nat) (cs : List Value) (v0 : Value) (e : Int) (older : List PanicEntry) (w : World) (hC : Blk w gc 46 cs) (hcl : cs.length = 4) (hE : Blk w ge 24 [v0]) (hne : gc ≠ ge) :
  CallsD Tryd.prog 24 #[.pointer (some ⟨gc, 0, none⟩), .pointer (some ⟨ge, 0, none⟩)] (.panicking ({ v := .iface 24 (.int .i64 e), recovered := false } :: older)) w fun r u' w' =>
   r = .returned (.tuple #[]) ∧ u' = .panicking ({ v := .iface 24 (.int .i64 e), recovered := true } :: older) ∧ Chg (fun k => k = gc ∨ k = ge) w w' ∧ Blk w' gc 46 comZ ∧ Blk w' ge 24 [.int .i64 e] := by
 refine callsD_of_wpS Tryd.func24 rfl fun c₀ ks hu => ?_
 apply wpS_seq
 apply wpS_region
 simp [wpOpsS, go_sem, recoverD, hu, Tryd.ntmps24, Exit.thenS]
 refine wpS_of_wp (CW.wp (n := (18, [], none)) (fr := [(0, .pointer (some ⟨gc, 0, none⟩)), (1, .pointer (some ⟨ge, 0, none⟩)), (2, .iface 24 (.int .i64 e))]) (Φ := DoneG (fun _ w' => Chg (fun k => k = gc ∨ k = ge) w w' ∧ Blk w' gc 46 comZ ∧ Blk w' ge 24 [.int .i64 e]) (fun _ _ => False)) ?_ ?_ ?_)
 ·
  refine CW.sr fun K1 hK1 => ?_
  refine WL.m rfl ?_
  refine WL.v (Y.neq_held any_under rfl rfl) ?_
  refine WL.nil ?_
  refine hK1 _ _ ?_
  refine CW.condT rfl ?_
  refine CW.sr fun K2 hK2 => ?_
  refine WL.m rfl ?_
  refine WL.v (Y.assertOk Tryd.underlying24 rfl) ?_
  refine WL.m rfl ?_
  refine WL.v (Y.extract rfl rfl) ?_
  refine WL.v (Y.extract rfl rfl) ?_
  refine WL.a rfl ?_
  refine WL.a rfl ?_
  refine WL.nil ?_
  refine hK2 _ _ ?_
  refine CW.seq fun K3 hK3 => ?_
  refine CW.sr fun K4 hK4 => ?_
  refine WL.m rfl ?_
  refine WL.v (Y.not rfl) ?_
  refine WL.nil ?_
  refine hK4 _ _ ?_
  refine CW.condF rfl ?_
  refine CW.skip ?_
  refine hK3 _ _ ?_
  refine CW.region ?_
  refine WL.v (Y.build0 (build_apiCommit _)) ?_
  refine WL.m rfl ?_
  refine WL.store (g := gc) (pre := []) (old := cs) (post := []) (new := comZ) rfl rfl rfl rfl (sz_apiCommit _ _ _ _) (by simpa using hC) (by rw [hcl]; rfl) (by intro u hu; simp [comZ, comC] at hu; rcases hu with rfl | rfl | rfl | rfl <;> rfl) (fun w1 hc1 hB1 => ?_)
  refine WL.store (g := ge) (pre := []) (old := [v0]) (post := []) (new := [.int .i64 e]) rfl rfl rfl rfl kr_ (hE.chg hc1 (fun h => hne h.symm)) rfl (one1 rfl) (fun w2 hc2 hB2 => ?_)
  refine WL.nil ?_
  refine ⟨(hc1.mono fun _ _ h => .inl h).trans hc2 (fun _ _ h => .inr h), ?_, by simpa using hB2⟩
  have hB1 : Blk w1 gc 46 comZ := by simpa using hB1
  exact hB1.chg hc2 hne
 ·
  refine ⟨by simp, rfl, fun t v h => ?_⟩
  have h := args3 t v h
  match t, h with
  | 0, h => simpa using h
  | 1, h => simpa using h
  | 2, h => simpa using h
  | t + 3, h => simp at h
 ·
  intro e' f a' w' hr hp
  cases e' with
  | normal => exact ⟨hr.defers, _, rfl, _, run_results (ts := []) hr rfl rfl w', rfl, rfl, hp⟩
  | ret => exact ⟨hr.defers, _, rfl, _, run_results (ts := []) hr rfl rfl w', rfl, rfl, hp⟩
  | exit id => exact hp.elim
  | goto l => exact hp.elim
  | panic ch => exact hp.elim
  | outgrown => exact hp.elim
theorem catch_idle (pc pe : Value) (w : World) :
  CallsD Tryd.prog 24 #[pc, pe] .returning w fun r u' w' => r = .returned (.tuple #[]) ∧ u' = .returning ∧ w' = w := by
 refine callsD_of_wpS Tryd.func24 rfl fun c₀ ks hu => ?_
 apply wpS_seq
 apply wpS_region
 simp [wpOpsS, go_sem, recoverD, hu, Tryd.ntmps24, Exit.thenS]
 refine wpS_of_wp (CW.wp (n := (18, [], none)) (fr := [(0, pc), (1, pe), (2, .nilIface)]) (Φ := DoneG (fun _ w' => w' = w) (fun _ _ => False)) ?_ ?_ ?_)
 ·
  refine CW.sr fun K1 hK1 => ?_
  refine WL.m rfl ?_
  refine WL.v (Y.neq_nils any_under rfl) ?_
  refine WL.nil ?_
  refine hK1 _ _ ?_
  refine CW.condF rfl ?_
  exact CW.skip rfl
 ·
  refine ⟨by simp, rfl, fun t v h => ?_⟩
  have h := args3 t v h
  match t, h with
  | 0, h => simpa using h
  | 1, h => simpa using h
  | 2, h => simpa using h
  | t + 3, h => simp at h
 ·
  intro e' f a' w' hr hp
  have hc : ({ c₀ with mode := .returning } : Frame) = c₀ := by subst_vars; cases c₀; simp_all
  cases e' with
  | normal => exact ⟨hr.defers, .returning, by rw [hc], _, run_results (ts := []) hr rfl rfl w', rfl, rfl, hp⟩
  | ret => exact ⟨hr.defers, .returning, by rw [hc], _, run_results (ts := []) hr rfl rfl w', rfl, rfl, hp⟩
  | exit id => exact hp.elim
  | goto l => exact hp.elim
  | panic ch => exact hp.elim
  | outgrown => exact hp.elim
theorem build_place (A : Option Addr) (m c : Nat) (w : World) : (Instr.build 69 [(0, Value.slice A m c)].toArray).run Tryd.prog w = .ok (.agg #[Value.slice A m c, .int .i64 0]) w := run_build w _ _ _ kr_
theorem build_reader (A : Option Addr) (m c : Nat) (w : World) : (Instr.build 71 [(0, Value.agg #[Value.slice A m c, .int .i64 0])].toArray).run Tryd.prog w = .ok (.agg (rdC (.slice A m c) ((0 : Nat) : Int) (.slice none 0 0) (bs []) (bs []) (.slice none 0 0)).toArray) w := run_build w _ _ _ kr_
theorem info_com : ∃ i : TypeInfo, Tryd.prog.info? 46 = some i ∧ i.zero = some (.agg comZ.toArray) := by
 have h : (Tryd.prog.info? 46).map (fun i => i.zero) = some (some (.agg comZ.toArray)) := by kernel_rfl
 obtain ⟨i, hi, h⟩ := Option.map_eq_some_iff.1 h
 exact ⟨i, hi, h⟩
theorem info_err : ∃ i : TypeInfo, Tryd.prog.info? 24 = some i ∧ i.zero = some (.int .i64 0) := by
 have h : (Tryd.prog.info? 24).map (fun i => i.zero) = some (some (.int .i64 0)) := by kernel_rfl
 obtain ⟨i, hi, h⟩ := Option.map_eq_some_iff.1 h
 exact ⟨i, hi, h⟩
abbrev rdZ : List Value := rdC (.slice none 0 0) 0 (.slice none 0 0) (bs []) (bs []) (.slice none 0 0)
theorem info_rd : ∃ i : TypeInfo, Tryd.prog.info? 71 = some i ∧ i.zero = some (.agg rdZ.toArray) ∧ i.size = 6 := by
 have h : (Tryd.prog.info? 71).map (fun i => (i.zero, i.size)) = some (some (.agg rdZ.toArray), 6) := by kernel_rfl
 obtain ⟨i, hi, h⟩ := Option.map_eq_some_iff.1 h
 injection h with h1 h2
 exact ⟨i, hi, h1, h2⟩
theorem dec_res {gc ge : Nat} {a : Act} {n : NN} {fr : Fr} {w : World} {pv ov v : Value} {au no : ByteArray} (hr : Rep n a fr) (h2 : fr.get 2 = some (.pointer (some ⟨gc, 0, none⟩))) (h3 : fr.get 3 = some (.pointer (some ⟨ge, 0, none⟩))) (hC : Blk w gc 46 (comC pv au no ov)) (hE : Blk w ge 24 [v]) :
  (results Tryd.f13 a.tmps).run Tryd.prog w = .ok (.tuple #[.agg (comC pv au no ov).toArray, v]) w := by
 have e2 := hr.get 2 _ h2
 have e3 := hr.get 3 _ h3
 have l1 := run_loadVarA (P := Tryd.prog) Tryd.underlying46 rfl (sz_apiCommit pv ov au no) hC.mem
 have l2 := run_loadVar1 (P := Tryd.prog) (w := w) (a := ⟨ge, 0, none⟩) (v := v) Tryd.underlying24 rfl hE.mem.cell0
 simp [results, Tryd.results13, e2, e3, asAddr, l1, l2]
def decE (b : List UInt8) : Int := if 131072 < b.length then 3 else match decI b with | .error e => e | .ok _ => 0
def decC (b : List UInt8) : ComD := if 131072 < b.length then ⟨[], bs [], bs [], []⟩ else match decI b with | .error _ => ⟨[], bs [], bs [], []⟩ | .ok c => c
def DecR (b : List UInt8) (w : World) (v : Value) (w' : World) : Prop := ∃ pv ov, v = .tuple #[.agg (comC pv (decC b).author (decC b).note ov).toArray, .int .i64 (decE b)] ∧ Ext w w' ∧ Sl w' digC 32 pv (decC b).parents ∧ Sl w' opC 37 ov (decC b).ops ∧
 (∀ k, pv.ownBlock = some k → w.heap.size ≤ k) ∧ (∀ k, ov.ownBlock = some k → w.heap.size ≤ k)
theorem DecR.zero {b : List UInt8} {w w' : World} {v : Value} {e : Int} (hc : decC b = ⟨[], bs [], bs [], []⟩) (he : decE b = e) (hx : Ext w w') (hv : v = .tuple #[.agg comZ.toArray, .int .i64 e]) : DecR b w v w' := by
 refine ⟨.slice none 0 0, .slice none 0 0, ?_, hx, ?_, ?_, fun k h => by simp [Value.ownBlock] at h, fun k h => by simp [Value.ownBlock] at h⟩
 ·
  rw [hv, hc, he]
 ·
  rw [hc]; exact Sl.nil
 ·
  rw [hc]; exact Sl.nil
theorem one_comZ : ∀ u ∈ comZ, u.oneCell' = true := by intro u hu; simp [comZ, comC] at hu; rcases hu with rfl | rfl | rfl | rfl <;> rfl
theorem one_com {A B : Option Addr} {m c n d : Nat} {au no : ByteArray} : ∀ u ∈ comC (.slice A m c) au no (.slice B n d), u.oneCell' = true := by intro u hu; simp [comC] at hu; rcases hu with rfl | rfl | rfl | rfl <;> rfl
theorem one_rd {A B C : Option Addr} {m c n d p q : Nat} {au no : ByteArray} {i : Int} : ∀ u ∈ rdC (.slice A m c) i (.slice B n d) au no (.slice C p q), u.oneCell' = true := by intro u hu; simp [rdC, comC] at hu; rcases hu with rfl | rfl | rfl | rfl | rfl | rfl <;> rfl
theorem by_lt {w : World} {v : Value} {b : List UInt8} {g : Nat} (hb : By w v b) (hg : w.heap.size ≤ g) : b ≠ [] → ∀ k, v.ownBlock = some k → k ≠ g := by
 intro hne k hk
 obtain ⟨A, m, c, rfl, hl, _, _, hA, _⟩ := hb
 obtain ⟨a, rfl, hm⟩ := hA (by rw [← hl]; exact List.length_pos_iff.2 hne)
 have := hm.lt (by intro h; exact hne (by simpa [bytesC] using h))
 simp [Value.ownBlock] at hk
 omega
abbrev DecS (b : List UInt8) (gc ge : Nat) (w : World) (ch : List PanicEntry) (w' : World) : Prop := ∃ e, decI b = .error e ∧ ch = pan e ∧ Ext w w' ∧ Blk w' gc 46 comZ ∧ Blk w' ge 24 [.int .i64 0]
@[reducible] def DoneF (g : Fr) (D : Fr → World → Prop) (S : List PanicEntry → World → Prop) : Exit → Fr → World → Prop
 | .normal, fr, w => D fr w
 | .ret, fr, w => D fr w
 | .panic ch, fr, w => Fr.le g fr ∧ S ch w
 | _, _, _ => False
theorem decode_any (bv : Value) (b : List UInt8) (w : World) (hb : By w bv b) : Calls Tryd.prog 13 #[bv] w (Ret (DecR b w)) := by
 obtain ⟨ic, hic, hzc⟩ := info_com
 obtain ⟨ie, hie, hze⟩ := info_err
 obtain ⟨ir, hir, hzr, hsr⟩ := info_rd
 have hb0 := hb
 obtain ⟨A, m, c, rfl, hl, hmc, hcm, _, _⟩ := hb0
 refine calls_of_wp_defers Tryd.func13 rfl ?_
 have ha : Rep (16, [], none) { tmps := #[Value.slice A m c] ++ Array.replicate (Tryd.f13.ntmps - #[Value.slice A m c].size) undef, defers := [] } [(0, .slice A m c)] := by
  refine ⟨rfl, rfl, fun t v h => ?_⟩
  have h := args1 t v h
  match t, h with
  | 0, h => simpa using h
  | t + 1, h => simp at h
 generalize ({ tmps := #[Value.slice A m c] ++ Array.replicate (Tryd.f13.ntmps - #[Value.slice A m c].size) undef, defers := [] } : Act) = a0 at ha ⊢
 refine wp_seq (CW.wp (Φ := fun e f w' => e = .normal ∧ ∃ gc ge, Fr.le [(0, .slice A m c), (2, .pointer (some ⟨gc, 0, none⟩)), (3, .pointer (some ⟨ge, 0, none⟩))] f ∧ Ext w w' ∧ w.heap.size ≤ gc ∧ gc < ge ∧ Blk w' gc 46 comZ ∧ Blk w' ge 24 [.int .i64 0]) ?_ ha ?_)
 ·
  refine CW.region ?_
  refine WL.alloc hic hzc rfl de_ fun gc w1 hx1 hg1 hB1 => ?_
  refine WL.alloc hie hze rfl de_ fun ge w2 hx2 hg2 hB2 => ?_
  refine WL.nil ?_
  exact ⟨rfl, gc, ge, Fr.ok, hx1.thenExt hx2, hg1, Nat.lt_of_lt_of_le hB1.lt hg2, hB1.ext hx2, hB2⟩
 rintro e f a1 w1 hr ⟨rfl, gc, ge, hle, hx1, hg1, hlt, hC, hE⟩
 have hr := hr.weaken hle
 show Code.wp _ _ _ _ _
 refine wp_seq (CW.wp (Φ := fun e f w' => (e = .ret ∧ 131072 < m ∧ Fr.le [(2, .pointer (some ⟨gc, 0, none⟩)), (3, .pointer (some ⟨ge, 0, none⟩))] f ∧ Ext w w' ∧ Blk w' gc 46 comZ ∧ Blk w' ge 24 [.int .i64 3]) ∨
  (e = .normal ∧ ¬ 131072 < m ∧ w' = w1 ∧ Fr.le [(0, .slice A m c), (2, .pointer (some ⟨gc, 0, none⟩)), (3, .pointer (some ⟨ge, 0, none⟩))] f)) ?_ hr ?_)
 ·
  refine CW.sr fun K1 hK1 => ?_
  refine WL.m rfl ?_
  refine WL.v (Y.len_slice Tryd.underlying32 rfl) ?_
  refine WL.v (Y.gtr rfl rfl) ?_
  refine WL.nil ?_
  refine hK1 _ _ ?_
  refine CW.condD rfl (fun h => ?_) (fun h => ?_)
  ·
   refine CW.sr fun K2 hK2 => ?_
   refine WL.v (Y.build0 (build_apiCommit _)) ?_
   refine WL.store (g := gc) (pre := []) (old := comZ) (post := []) (new := comZ) rfl rfl rfl rfl (sz_apiCommit _ _ _ _) (by simpa using hC) rfl one_comZ (fun w2 hc2 hB2 => ?_)
   refine WL.store (g := ge) (pre := []) (old := [.int .i64 0]) (post := []) (new := [.int .i64 3]) rfl rfl rfl rfl kr_ (hE.chg hc2 no_) rfl (one1 rfl) (fun w3 hc3 hB3 => ?_)
   refine WL.nil ?_
   refine hK2 _ _ ?_
   refine CW.ret (.inl ⟨rfl, by omega, Fr.ok, ?_, ?_, by simpa using hB3⟩)
   ·
    exact (((Ext.chg hx1).trans hc2 (fun _ _ h => .inl h)).trans hc3 (fun _ _ h => .inr h) : Chg (fun k => k = gc ∨ k = ge) w w3).toExt fun i hi h => by omega
   ·
    have hB2 : Blk w2 gc 46 comZ := by simpa using hB2
    exact hB2.chg hc3 no_
  ·
   exact CW.skip (.inr ⟨rfl, by omega, rfl, Fr.ok⟩)
 rintro e f a2 w2 hr (⟨rfl, hm, hle, hx2, hC2, hE2⟩ | ⟨rfl, hm, rfl, hle⟩)
 ·
  have hr := hr.weaken hle
  show Leaves _ _ _ _ _ _ _
  rw [hr.defers]
  exact ⟨_, dec_res hr rfl rfl hC2 hE2, DecR.zero (by rw [decC, if_pos om_]) (by rw [decE, if_pos om_]) hx2 rfl⟩
 have hr := hr.weaken hle
 show Code.wp _ _ _ _ _
 refine wp_defer hr rfl de_ fun a3 hr3 => ?_
 refine CW.wp (Φ := DoneF [(2, .pointer (some ⟨gc, 0, none⟩)), (3, .pointer (some ⟨ge, 0, none⟩))] (fun f w' => ∃ pv ov, Fr.le [(2, .pointer (some ⟨gc, 0, none⟩)), (3, .pointer (some ⟨ge, 0, none⟩))] f ∧ (∃ cm, decI b = .ok cm ∧ Blk w' gc 46 (comC pv cm.author cm.note ov) ∧ Sl w' digC 32 pv cm.parents ∧ Sl w' opC 37 ov cm.ops) ∧ Ext w w' ∧ Blk w' ge 24 [.int .i64 0] ∧ (∀ k, pv.ownBlock = some k → w.heap.size ≤ k) ∧ (∀ k, ov.ownBlock = some k → w.heap.size ≤ k))
  (DecS b gc ge w)) ?_ hr3 ?_
 ·
  refine CW.sr fun K1 hK1 => ?_
  refine WL.val (Y.move rfl) (by show _ < 16; decide) ?_
  refine WL.val (Y.build rfl (build_place _ _ _ _)) (by show _ < 16; decide) ?_
  refine WL.val (Y.build rfl (build_reader _ _ _ _)) (by show _ < 16; decide) ?_
  refine WL.allocStore (zs := rdZ) (cs := rdC (.slice A m c) ((0 : Nat) : Int) (.slice none 0 0) (bs []) (bs []) (.slice none 0 0)) hir hzr rfl (by rw [hsr]; rfl) rfl rfl (by simp) rfl one_rd (by show _ < 16; decide) fun g4 w3 hx3 hg4 hB4 => ?_
  refine WL.nil ?_
  refine hK1 _ _ ?_
  refine CW.sr fun K2 hK2 => ?_
  have hs1 := hx1.size
  have hs2 := hC.lt
  have hs3 := hE.lt
  have hb3 := (hb.ext hx1).ext hx3
  refine WL.callOr Tryd.func25 rfl rfl rfl (pcommit_any g4 _ b _ hB4 hb3 (by_lt hb om_)) (by simp) (fun ch w4 hP4 => ?_) ?_
  ·
   obtain ⟨e, h1, rfl, hc⟩ := hP4
   show Fr.le _ _ ∧ DecS b gc ge w (pan e) w4
   exact ⟨Fr.ok, e, h1, rfl, ((Ext.chg (hx1.thenExt hx3)).trans hc (fun _ _ h => h)).toExt (fun i hi h => by omega), (hC.ext hx3).chg hc no_, (hE.ext hx3).chg hc no_⟩
  rintro v w4 ⟨rfl, cm, pv, ov, hd, hR⟩
  have hB := hR.blk
  have hcc := hR.chg
  have hC4 := (hC.ext hx3).chg hcc no_
  have hE4 := (hE.ext hx3).chg hcc no_
  refine WL.nil ?_
  refine hK2 _ _ ?_
  refine CW.sr fun K3 hK3 => ?_
  refine WL.val (Y.fieldAddr fo_commitreader1 rfl) (by show _ < 16; decide) ?_
  refine WL.val (Y.load Tryd.underlying46 rfl hB.mem.reader1 (sz_apiCommit _ _ _ _) rfl) (by show _ < 16; decide) ?_
  obtain ⟨A5, m5, c5, hpv⟩ := hR.ownP.lens
  obtain ⟨A6, m6, c6, hov⟩ := hR.ownO.lens
  refine WL.store (g := gc) (pre := []) (old := comZ) (post := []) (new := comC pv cm.author cm.note ov) rfl rfl rfl rfl (sz_apiCommit _ _ _ _) (by simpa using hC4) rfl (by subst hpv; subst hov; exact one_com) (fun w5 hc5 hB5 => ?_)
  refine WL.store (g := ge) (pre := []) (old := [.int .i64 0]) (post := []) (new := [.int .i64 0]) rfl rfl rfl rfl kr_ (hE4.chg hc5 no_) rfl (one1 rfl) (fun w6 hc6 hB6 => ?_)
  refine WL.nil ?_
  refine hK3 _ _ ?_
  have hs4 := hx3.size
  have hs5 := hcc.size
  have hB5 : Blk w5 gc 46 (comC pv cm.author cm.note ov) := by simpa using hB5
  have hnp := hR.newP
  have hno := hR.newO
  refine CW.ret ⟨pv, ov, Fr.ok, ⟨cm, hd, hB5.chg hc6 no_, ?_, ?_⟩, ?_, by simpa using hB6, fun k hk => by have := hnp k hk; omega, fun k hk => by have := hno k hk; omega⟩
  ·
   exact ((hR.ownP.chg hc5 (fun k hk h => by have := hnp k hk; omega)).chg hc6 (fun k hk h => by have := hnp k hk; omega)).sl (fun x => digC_length x) de_
  ·
   exact ((hR.ownO.chg hc5 (fun k hk h => by have := hno k hk; omega)).chg hc6 (fun k hk h => by have := hno k hk; omega)).sl (fun x => opC_length x) de_
  ·
   exact ((((Ext.chg (hx1.thenExt hx3)).trans hcc (fun _ _ h => .inl h)).trans hc5 (fun _ _ h => .inr (.inl h))).trans hc6 (fun _ _ h => .inr (.inr h)) : Chg (fun k => k = g4 ∨ k = gc ∨ k = ge) w w6).toExt fun i hi h => by omega
 intro e f a4 w4 hr4 hp
 cases e with
 | ret =>
  obtain ⟨pv, ov, hle, ⟨cm, hd, hCc, hsp, hso⟩, hx, hEe, hnp, hno⟩ := hp
  have hr5 := hr4.weaken hle
  show Leaves _ _ _ _ _ _ _
  rw [hr5.defers]
  refine leaves_cons (f := 24) (args := #[.pointer (some ⟨gc, 0, none⟩), .pointer (some ⟨ge, 0, none⟩)]) (by simp) (by simp [go_sem]) ?_
  refine (catch_idle _ _ w4).mono ?_
  rintro r u' w5 ⟨rfl, rfl, rfl⟩
  have hcc : decC b = cm := by rw [decC, if_neg om_, hd]
  have hee : decE b = 0 := by rw [decE, if_neg om_, hd]
  exact ⟨_, dec_res hr5 rfl rfl hCc hEe, pv, ov, by rw [hcc, hee], hx, by rw [hcc]; exact hsp, by rw [hcc]; exact hso, hnp, hno⟩
 | normal =>
  obtain ⟨pv, ov, hle, ⟨cm, hd, hCc, hsp, hso⟩, hx, hEe, hnp, hno⟩ := hp
  have hr5 := hr4.weaken hle
  show Leaves _ _ _ _ _ _ _
  rw [hr5.defers]
  refine leaves_cons (f := 24) (args := #[.pointer (some ⟨gc, 0, none⟩), .pointer (some ⟨ge, 0, none⟩)]) (by simp) (by simp [go_sem]) ?_
  refine (catch_idle _ _ w4).mono ?_
  rintro r u' w5 ⟨rfl, rfl, rfl⟩
  have hcc : decC b = cm := by rw [decC, if_neg om_, hd]
  have hee : decE b = 0 := by rw [decE, if_neg om_, hd]
  exact ⟨_, dec_res hr5 rfl rfl hCc hEe, pv, ov, by rw [hcc, hee], hx, by rw [hcc]; exact hsp, by rw [hcc]; exact hso, hnp, hno⟩
 | panic ch =>
  obtain ⟨hle, e, hd, rfl, hx, hC4, hE4⟩ := hp
  have hr5 := hr4.weaken hle
  show Leaves _ _ _ _ _ _ _
  rw [hr5.defers]
  refine leaves_cons (f := 24) (args := #[.pointer (some ⟨gc, 0, none⟩), .pointer (some ⟨ge, 0, none⟩)]) (by simp) (by simp [go_sem]) ?_
  refine (catch_pan gc ge comZ _ e [] w4 hC4 rfl hE4 om_).mono ?_
  rintro r u' w5 ⟨rfl, rfl, hcg, hC5, hE5⟩
  have hcc : decC b = ⟨[], bs [], bs [], []⟩ := by rw [decC, if_neg om_, hd]
  have hee : decE b = e := by rw [decE, if_neg om_, hd]
  show ∃ v, _
  exact ⟨_, dec_res hr5 rfl rfl hC5 hE5, DecR.zero hcc hee (((Ext.chg hx).trans hcg (fun _ _ h => h)).toExt (fun i hi h => by omega)) rfl⟩
 | exit id => exact hp.elim
 | goto l => exact hp.elim
 | outgrown => exact hp.elim
end Go.Proofs.YtfanmpbapabboaaDoor
/- Rules: a slot whose value is known; a slice out of a constant text. No condition; no program. -/
namespace Go.Fw
open Go.RowKit
section
variable {P : Program} {n : NN} {Φ : Exit → Fr → World → Prop} {fr : Fr} {w : World} {ops : Array Oper} {C S : World → Prop} {Ψ : Fr → Prop}
theorem WL.know {l : List Oper} {d : Nat} {v u : Value} (hg : fr.get d = some v) (h : v = u) (k : WL P ops n Φ l ((d, u) :: fr) w) : WL P ops n Φ l fr w := fun a ha => k a (ha.weaken (Fr.le.cons (by rw [hg, h]) Fr.le.refl))
theorem QL.know {l : List Oper} {d : Nat} {v u : Value} (hg : fr.get d = some v) (h : v = u) (k : QL P ops C n Ψ l ((d, u) :: fr)) : QL P ops C n Ψ l fr := fun a ha => k a (ha.weaken (Fr.le.cons (by rw [hg, h]) Fr.le.refl))
theorem RH.know {fuel : Nat} {listed : Array Bool} {d : Nat} {v u : Value} (hg : fr.get d = some v) (h : v = u) (k : RH P ops S n Φ fuel listed ((d, u) :: fr) w) : RH P ops S n Φ fuel listed fr w := fun a ha => k a (ha.weaken (Fr.le.cons (by rw [hg, h]) Fr.le.refl))
theorem CW.know {c : Code} {d : Nat} {v u : Value} (hg : fr.get d = some v) (h : v = u) (k : CW P c n Φ ((d, u) :: fr) w) : CW P c n Φ fr w := fun a ha => k a (ha.weaken (Fr.le.cons (by rw [hg, h]) Fr.le.refl))
end
end Go.Fw
namespace Go.Proofs.YtfanmpbapabboaaDoor
open Go.RowKit Go.Fw Go.Pl
theorem as_apiCommit {n : NN} {Φ : Exit → Fr → World → Prop} {fr : Fr} {w : World} {ops : Array Oper} {rest : List Oper} {d : Nat} {x : Operand} {ty ty' : TypeId} {pos pos' : String} {aft aft' : Array Edge} {A B : Option Addr} {m c m' c' : Nat} {au no : ByteArray}
  (hx : ev fr x = some (.agg (comC (.slice A m c) au no (.slice B m' c')).toArray)) (hxd : x ≠ .tmp d) (hd : d < n.1)
  (h : ∀ g w', Ext w w' → w.heap.size ≤ g → Blk w' g 46 (comC (.slice A m c) au no (.slice B m' c')) → WL Tryd.prog ops n Φ rest ((d, .pointer (some ⟨g, 0, none⟩)) :: fr) w') :
  WL Tryd.prog ops n Φ (⟨some d, .alloc 46, ty, pos, aft, none⟩ :: ⟨none, .store 46 (.tmp d) x, ty', pos', aft', none⟩ :: rest) fr w := by
 obtain ⟨i, hi, hz⟩ := info_com
 exact WL.allocStore (zs := comZ) (cs := comC (.slice A m c) au no (.slice B m' c')) hi hz rfl (by have := sz_com; rw [hi] at this; simp at this; rw [this]; rfl) rfl hx hxd rfl one_com hd h
end Go.Proofs.YtfanmpbapabboaaDoor
/- What must come: the least commit's bytes, and back: small, alive. No condition. -/
namespace Go.Proofs.YtfanmpbapabboaaDoor
open Go.RowKit Go.Fw Go.Pl
theorem Sl.one {w : World} {g : Nat} {t : TypeId} {x : OpD} (h : Blk w g t (opC x)) : Sl w opC 37 (.slice (some ⟨g, 0, none⟩) 1 1) [x] := ⟨some ⟨g, 0, none⟩, 1, 1, rfl, rfl, Nat.le_refl _, by unfold maxLen; decide, fun i y hi => by
 cases i with
 | zero =>
  simp at hi; subst hi
  exact ⟨_, rfl, by have := h.mem; simpa [Addr.add] using this⟩
 | succ i => simp at hi⟩
end Go.Proofs.YtfanmpbapabboaaDoor
/- The plain law of a commit's bytes, there and back: what is written is read, with bytes missing it ends too early, what is read was written so. No condition; no program. -/
namespace Go.Pl
open Go.Fw
abbrev Rdg (α : Type) := List UInt8 → Nat → Except Int (α × Nat)
def Rds {α : Type} (f : Rdg α) (x : α) (e : List UInt8) : Prop :=
 (∀ pre post : List UInt8, f (pre ++ (e ++ post)) pre.length = .ok (x, pre.length + e.length)) ∧ ∀ (pre : List UInt8) (k : Nat), k < e.length → f (pre ++ e.take k) pre.length = .error 8
def Snd {α : Type} (f : Rdg α) (E : α → List UInt8 → Prop) : Prop :=
 ∀ (bs : List UInt8) (at_ : Nat) (x : α) (a : Nat), at_ ≤ bs.length → f bs at_ = .ok (x, a) → at_ ≤ a ∧ a ≤ bs.length ∧ E x ((bs.drop at_).take (a - at_))
def gbind {α β : Type} (f : Rdg α) (h : α → Rdg β) : Rdg β := fun bs at_ => match f bs at_ with
 | .error e => .error e
 | .ok (x, a) => h x bs a
theorem gbind_ok {α β : Type} {f : Rdg α} {h : α → Rdg β} {bs : List UInt8} {at_ a : Nat} {x : α} (e : f bs at_ = .ok (x, a)) : gbind f h bs at_ = h x bs a := by simp only [gbind, e]
theorem gbind_err {α β : Type} {f : Rdg α} {h : α → Rdg β} {bs : List UInt8} {at_ : Nat} {k : Int} (e : f bs at_ = .error k) : gbind f h bs at_ = .error k := by simp only [gbind, e]
theorem Rds.bind {α β : Type} {f : Rdg α} {h : α → Rdg β} {x : α} {y : β} {e1 e2 : List UInt8} (h1 : Rds f x e1) (h2 : Rds (h x) y e2) : Rds (gbind f h) y (e1 ++ e2) := by
 constructor
 ·
  intro pre post
  have a1 := h1.1 pre (e2 ++ post)
  have a2 := h2.1 (pre ++ e1) post
  rw [List.append_assoc e1 e2 post, gbind_ok a1]
  rw [List.append_assoc, List.length_append] at a2
  rw [a2, List.length_append, Nat.add_assoc]
 ·
  intro pre k hk
  rcases Nat.lt_or_ge k e1.length with hlt | hge
  ·
   rw [List.take_append_of_le_length om_]
   exact gbind_err (h1.2 pre k hlt)
  ·
   have a1 := h1.1 pre (e2.take (k - e1.length))
   have ht : (e1 ++ e2).take k = e1 ++ e2.take (k - e1.length) := by rw [List.take_append, List.take_of_length_le hge]
   rw [ht, gbind_ok a1]
   have a2 := h2.2 (pre ++ e1) (k - e1.length) (by rw [List.length_append] at hk; omega)
   rw [List.append_assoc, List.length_append] at a2
   exact a2
theorem Rds.pure {α : Type} {x : α} : Rds (fun _ at_ => .ok (x, at_)) x [] := ⟨fun _ _ => rfl, fun _ k hk => by simp at hk⟩
theorem Rds.guard {α : Type} {f : Rdg α} {x : α} {e : List UInt8} {c : Prop} [Decidable c] {k : Int} (hc : ¬ c) (h : Rds f x e) : Rds (fun bs at_ => if c then .error k else f bs at_) x e := by
 constructor
 ·
  intro pre post; simp only [hc, if_false]; exact h.1 pre post
 ·
  intro pre j hj; simp only [hc, if_false]; exact h.2 pre j hj
theorem cut_join (bs : List UInt8) {a b c : Nat} (h1 : a ≤ b) (h2 : b ≤ c) : (bs.drop a).take (c - a) = (bs.drop a).take (b - a) ++ (bs.drop b).take (c - b) := by
 have e : c - a = (b - a) + (c - b) := by omega
 rw [e, List.take_add, List.drop_drop]
 congr 3
 omega
theorem Snd.bind {α β : Type} {f : Rdg α} {h : α → Rdg β} {E1 : α → List UInt8 → Prop} {E2 : α → β → List UInt8 → Prop} (h1 : Snd f E1) (h2 : ∀ x, Snd (h x) (E2 x)) :
  Snd (gbind f h) (fun y l => ∃ x l1 l2, l = l1 ++ l2 ∧ E1 x l1 ∧ E2 x y l2) := by
 intro bs at_ y a ha hf
 unfold gbind at hf
 split at hf
 ·
  cases hf
 ·
  rename_i x b hb
  obtain ⟨a1, a2, a3⟩ := h1 bs at_ x b ha hb
  obtain ⟨b1, b2, b3⟩ := h2 x bs b y a a2 hf
  exact ⟨by omega, b2, x, _, _, cut_join bs a1 b1, a3, b3⟩
theorem Snd.pure {α : Type} {x : α} : Snd (fun _ at_ => .ok (x, at_)) (fun y l => y = x ∧ l = []) := by
 intro bs at_ y a ha hf
 injection hf with hf; injection hf with h1 h2
 subst h1; subst h2
 exact ⟨Nat.le_refl _, ha, rfl, by simp⟩
theorem Snd.guard {α : Type} {f : Rdg α} {E : α → List UInt8 → Prop} {c : Prop} [Decidable c] {k : Int} (h : Snd f E) : Snd (fun bs at_ => if c then .error k else f bs at_) (fun x l => ¬ c ∧ E x l) := by
 intro bs at_ y a ha hf
 by_cases hc : c
 ·
  simp only [hc, if_true] at hf; cases hf
 ·
  simp only [hc, if_false] at hf
  obtain ⟨h1, h2, h3⟩ := h bs at_ y a ha hf
  exact ⟨h1, h2, hc, h3⟩
theorem Snd.ite {α : Type} {f g : Rdg α} {E F : α → List UInt8 → Prop} {c : Prop} [Decidable c] (h : Snd f E) (k : Snd g F) : Snd (fun bs at_ => if c then f bs at_ else g bs at_) (fun x l => (c ∧ E x l) ∨ (¬ c ∧ F x l)) := by
 intro bs at_ y a ha hf
 by_cases hc : c
 ·
  simp only [hc, if_true] at hf
  obtain ⟨h1, h2, h3⟩ := h bs at_ y a ha hf
  exact ⟨h1, h2, .inl ⟨hc, h3⟩⟩
 ·
  simp only [hc, if_false] at hf
  obtain ⟨h1, h2, h3⟩ := k bs at_ y a ha hf
  exact ⟨h1, h2, .inr ⟨hc, h3⟩⟩
theorem Snd.mono {α : Type} {f : Rdg α} {E F : α → List UInt8 → Prop} (h : Snd f E) (hm : ∀ x l, E x l → F x l) : Snd f F := fun bs at_ x a ha hf => by
 obtain ⟨h1, h2, h3⟩ := h bs at_ x a ha hf
 exact ⟨h1, h2, hm _ _ h3⟩
theorem toNat_small {n : Nat} (h : n < 256) : (UInt8.ofNat n).toNat = n := by rw [UInt8.toNat_ofNat', Nat.mod_eq_of_lt h]
theorem gn_vi : ∀ (k n i s : Nat) (r : List UInt8), n < 128 ^ (k + 1) → i + k + 1 ≤ 9 → (0 < n ∨ i = 0) → gn i s (vi n ++ r) = .ok (s + n * 128 ^ i, i + (vi n).length)
 | k, n, i, s, r, hn, hi, hz => by
  by_cases h1 : n < 128
  ·
   rw [vi_lt h1]
   have ht := toNat_small (n := n) om_
   simp only [List.cons_append, List.nil_append, gn, ht]
   rw [if_neg om_, if_neg om_, if_neg om_, Nat.mod_eq_of_lt h1]
   rfl
  ·
   rw [vi_ge h1]
   have ht := toNat_small (n := n % 128 + 128) om_
   cases k with
   | zero => simp at hn; omega
   | succ k =>
    have h2 : n / 128 < 128 ^ (k + 1) := by
     rw [Nat.pow_succ] at hn
     exact Nat.div_lt_of_lt_mul (by rw [Nat.mul_comm]; exact hn)
    simp only [List.cons_append, gn, ht]
    rw [if_neg om_, if_neg om_, if_pos om_, gn_vi k (n / 128) (i + 1) _ r h2 om_ om_]
    have e : s + (n % 128 + 128) % 128 * 128 ^ i + n / 128 * 128 ^ (i + 1) = s + n * 128 ^ i := by
     have : (n % 128 + 128) % 128 = n % 128 := by omega
     rw [this, Nat.pow_succ, Nat.add_assoc, ← Nat.mul_assoc, Nat.mul_right_comm, ← Nat.add_mul]
     congr 2
     omega
    rw [e, List.length_cons]
    congr 2
    omega
theorem gn_head : ∀ (k n i s j : Nat), n < 128 ^ (k + 1) → i + k + 1 ≤ 9 → j < (vi n).length → gn i s ((vi n).take j) = .error 8
 | k, n, i, s, j, hn, hi, hj => by
  cases j with
  | zero => simp [gn]
  | succ j =>
   by_cases h1 : n < 128
   ·
    rw [vi_lt h1] at hj; simp at hj
   ·
    rw [vi_ge h1] at hj ⊢
    have ht := toNat_small (n := n % 128 + 128) om_
    cases k with
    | zero => simp at hn; omega
    | succ k =>
     have h2 : n / 128 < 128 ^ (k + 1) := by
      rw [Nat.pow_succ] at hn
      exact Nat.div_lt_of_lt_mul (by rw [Nat.mul_comm]; exact hn)
     simp only [List.take_succ_cons, gn, ht]
     rw [if_neg om_, if_neg om_, if_pos om_]
     exact gn_head k (n / 128) (i + 1) _ j h2 om_ (by simpa using hj)
theorem rds_num {n : Nat} (h : n < 9223372036854775808) : Rds gnum n (vi n) := by
 have h9 : n < 128 ^ (8 + 1) := by simpa using h
 constructor
 ·
  intro pre post
  rw [gnum, List.drop_left, gn_vi 8 n 0 0 post h9 om_ (.inr rfl)]
  simp
 ·
  intro pre k hk
  rw [gnum, List.drop_left, gn_head 8 n 0 0 k h9 om_ hk]
theorem gn_snd : ∀ (l : List UInt8) (i s m k : Nat), i < 9 → gn i s l = .ok (m, k) → ∃ n, m = s + n * 128 ^ i ∧ l.take (k - i) = vi n ∧ i < k ∧ k ≤ i + l.length ∧ (0 < n ∨ i = 0) ∧ n < 128 ^ (9 - i)
 | [], i, s, m, k, _, h => by cases h
 | x :: r, i, s, m, k, hi, h => by
  have hx := x.toNat_lt
  rw [gn] at h
  split at h
  ·
   cases h
  rename_i h1
  split at h
  ·
   cases h
  rename_i h2
  split at h
  ·
   rename_i h3
   obtain ⟨n, rfl, hv, hik, hk, hz, hb⟩ := gn_snd r (i + 1) _ m k om_ h
   refine ⟨x.toNat % 128 + n * 128, ?_, ?_, by omega, by simp only [List.length_cons]; omega, .inl om_, ?_⟩
   ·
    rw [Nat.pow_succ, Nat.add_mul, ← Nat.mul_assoc, Nat.mul_right_comm n 128 (128 ^ i), Nat.add_assoc]
   ·
    rw [vi_ge om_]
    have e1 : (x.toNat % 128 + n * 128) % 128 + 128 = x.toNat := by omega
    have e2 : (x.toNat % 128 + n * 128) / 128 = n := by omega
    rw [e1, e2, UInt8.ofNat_toNat, ← hv]
    obtain ⟨j, hj⟩ : ∃ j, k - i = j + 1 := ⟨k - i - 1, by omega⟩
    rw [hj, List.take_succ_cons]
    congr 2
    omega
   ·
    obtain ⟨q, hq⟩ : ∃ q, 9 - i = q + 1 := ⟨9 - i - 1, by omega⟩
    have hq2 : 9 - (i + 1) = q := by omega
    rw [hq2] at hb
    rw [hq, Nat.pow_succ]
    omega
  ·
   rename_i h3
   injection h with h; injection h with e1 e2
   subst e1; subst e2
   have hm : x.toNat % 128 = x.toNat := Nat.mod_eq_of_lt om_
   refine ⟨x.toNat, by rw [hm], ?_, by omega, by simp only [List.length_cons]; omega, by omega, ?_⟩
   ·
    rw [vi_lt om_, UInt8.ofNat_toNat, show i + 1 - i = 1 by omega]; rfl
   ·
    have : 128 ^ 1 ≤ 128 ^ (9 - i) := Nat.pow_le_pow_right de_ om_
    omega
theorem snd_num : Snd gnum (fun n l => l = vi n ∧ n < 9223372036854775808) := by
 intro bs at_ x a ha h
 unfold gnum at h
 split at h
 ·
  cases h
 rename_i n k hk
 injection h with h; injection h with h1 h2
 subst h1; subst h2
 obtain ⟨n', rfl, hv, h0, hl, _, hb⟩ := gn_snd _ _ _ _ _ om_ hk
 rw [List.length_drop] at hl
 refine ⟨by omega, by omega, ?_, by simpa using hb⟩
 rw [show at_ + k - at_ = k - 0 by omega, hv]
 simp
theorem rds_dig (d : Dig) : Rds gdig d d.1 := by
 have hd := d.2
 constructor
 ·
  intro pre post
  have hlen : pre.length + 32 ≤ (pre ++ (d.1 ++ post)).length := by simp only [List.length_append]; omega
  rw [gdig, dif_pos hlen]
  have e : ((pre ++ (d.1 ++ post)).drop pre.length).take 32 = d.1 := by rw [List.drop_left, List.take_append_of_le_length om_, List.take_of_length_le om_]
  congr 1
  rw [hd]
  congr 1
  exact Subtype.ext e
 ·
  intro pre k hk
  rw [gdig, dif_neg (by simp only [List.length_append, List.length_take]; omega)]
theorem snd_dig : Snd gdig (fun d l => l = d.1) := by
 intro bs at_ x a ha h
 unfold gdig at h
 split at h
 ·
  rename_i hl
  injection h with h; injection h with h1 h2
  subst h1; subst h2
  exact ⟨by omega, hl, by rw [show at_ + 32 - at_ = 32 by omega]⟩
 ·
  cases h
def gtake (n : Nat) : Rdg (List UInt8) := fun bs at_ => if bs.length < at_ + n then .error 8 else .ok ((bs.drop at_).take n, at_ + n)
theorem rds_take (t : List UInt8) : Rds (gtake t.length) t t := by
 constructor
 ·
  intro pre post
  rw [gtake, if_neg (by simp only [List.length_append]; omega), List.drop_left, List.take_append_of_le_length (Nat.le_refl _), List.take_of_length_le (Nat.le_refl _)]
 ·
  intro pre k hk
  rw [gtake, if_pos (by simp only [List.length_append, List.length_take]; omega)]
theorem snd_take (n : Nat) : Snd (gtake n) (fun t l => l = t ∧ t.length = n) := by
 intro bs at_ x a ha h
 unfold gtake at h
 split at h
 ·
  cases h
 rename_i hl
 injection h with h; injection h with h1 h2
 subst h1; subst h2
 exact ⟨by omega, by omega, by rw [show at_ + n - at_ = n by omega], by rw [List.length_take, List.length_drop]; omega⟩
theorem gtext_bind : gtext = gbind gnum fun n bs at_ => if 131072 < n then .error 3 else gtake n bs at_ := by
 funext bs at_
 unfold gtext gbind gtake
 cases gnum bs at_ <;> rfl
theorem rds_text {t : List UInt8} (h : t.length ≤ 131072) : Rds gtext t (textB t) := by
 rw [gtext_bind]
 exact (rds_num om_).bind (Rds.guard om_ (rds_take t))
theorem snd_text : Snd gtext (fun t l => l = textB t ∧ t.length ≤ 131072) := by
 rw [gtext_bind]
 refine (snd_num.bind fun n => (snd_take n).guard).mono ?_
 rintro t l ⟨n, l1, l2, rfl, ⟨rfl, _⟩, h1, rfl, rfl⟩
 exact ⟨rfl, by omega⟩
theorem gmany_succ {α : Type} (f : Rdg α) (k : Nat) : (fun bs at_ => gmany f bs (k + 1) at_) = gbind f fun x => gbind (fun bs at_ => gmany f bs k at_) fun xs _ at_ => .ok (x :: xs, at_) := by
 funext bs at_
 unfold gbind
 rw [gmany]
 cases f bs at_ with
 | error e => rfl
 | ok p =>
  obtain ⟨x, a⟩ := p
  simp only []
  cases gmany f bs k a <;> rfl
theorem snd_many {α : Type} {f : Rdg α} {enc : α → List UInt8} {Q : α → Prop} (h : Snd f (fun x l => l = enc x ∧ Q x)) : ∀ k, Snd (fun bs at_ => gmany f bs k at_) (fun xs l => l = (xs.map enc).flatten ∧ xs.length = k ∧ ∀ x ∈ xs, Q x)
 | 0 => Snd.pure.mono fun x l ⟨h1, h2⟩ => by subst h1; subst h2; exact ⟨rfl, rfl, fun x hx => by simp at hx⟩
 | k + 1 => by
  rw [gmany_succ]
  refine (h.bind (E2 := fun x ys l => ∃ xs l1 l2, l = l1 ++ l2 ∧ (l1 = (xs.map enc).flatten ∧ xs.length = k ∧ ∀ x ∈ xs, Q x) ∧ (ys = x :: xs ∧ l2 = [])) fun x => (snd_many h k).bind fun xs => Snd.pure).mono ?_
  rintro ys l ⟨x, l1, l2, rfl, ⟨rfl, hq⟩, xs, l3, l4, rfl, ⟨rfl, rfl, hqs⟩, rfl, rfl⟩
  refine ⟨by simp, rfl, fun y hy => ?_⟩
  rcases List.mem_cons.1 hy with rfl | hy
  ·
   exact hq
  ·
   exact hqs y hy
def gbyte : Rdg UInt8 := fun bs at_ => match bs[at_]? with
 | some b => .ok (b, at_ + 1)
 | none => .error 8
theorem snd_byte : Snd gbyte (fun b l => l = [b]) := by
 intro bs at_ x a ha h
 unfold gbyte at h
 split at h
 ·
  rename_i b hb
  injection h with h; injection h with h1 h2
  subst h1; subst h2
  have hlt := (List.getElem?_eq_some_iff.1 hb).1
  refine ⟨by omega, hlt, ?_⟩
  rw [show at_ + 1 - at_ = 1 by omega, List.drop_eq_getElem_cons hlt, (List.getElem?_eq_some_iff.1 hb).2]
  rfl
 ·
  cases h
def gopR : Rdg OpD := gbind gnum fun n bs at_ => if 12 ≤ n then .error 7 else gbind (fun bs at_ => if 8 ≤ n then gdig bs at_ else .ok (Dig.zero, at_)) (fun d =>
 gbind (fun bs at_ => if 4 ≤ n then gbind gnum (fun k bs at_ => if k = 0 then .error 7 else .ok (k, at_)) bs at_ else .ok (0, at_)) fun k =>
 gbind (fun bs at_ => if n % 2 = 0 then gbyte bs at_ else .ok (0, at_)) fun b _ at_ => .ok (⟨if n % 2 = 0 then 1 else 2, decide (n / 2 % 2 = 1), ⟨decide (n / 4 = 1), d, (k : Int)⟩, b⟩, at_)) bs at_
theorem gop_eq : gop = gopR := by
 funext bs at_
 unfold gop gopR gbind gopD gopN gopB gbyte
 cases gnum bs at_ with
 | error e => rfl
 | ok p =>
  obtain ⟨n, a⟩ := p
  simp only []
  by_cases h12 : 12 ≤ n
  ·
   simp only [h12, if_true]
  ·
   simp only [h12, if_false]
   by_cases h8 : 8 ≤ n
   ·
    have h4 : 4 ≤ n := by omega
    simp only [h8, h4, if_true]
    cases gdig bs a with
    | error e => rfl
    | ok q =>
     obtain ⟨d, a2⟩ := q
     simp only []
     cases gnum bs a2 with
     | error e => rfl
     | ok r =>
      obtain ⟨k, a3⟩ := r
      simp only []
      by_cases hk : k = 0
      ·
       simp only [hk, if_true]
      ·
       simp only [hk, if_false]
       by_cases h2 : n % 2 = 0
       ·
        simp only [h2, if_true]
        cases bs[a3]? <;> rfl
       ·
        simp only [h2, if_false]
   ·
    simp only [h8, if_false]
    by_cases h4 : 4 ≤ n
    ·
     simp only [h4, if_true]
     cases gnum bs a with
     | error e => rfl
     | ok r =>
      obtain ⟨k, a3⟩ := r
      simp only []
      by_cases hk : k = 0
      ·
       simp only [hk, if_true]
      ·
       simp only [hk, if_false]
       by_cases h2 : n % 2 = 0
       ·
        simp only [h2, if_true]
        cases bs[a3]? <;> rfl
       ·
        simp only [h2, if_false]
    ·
     simp only [h4, if_false]
     by_cases h2 : n % 2 = 0
     ·
      simp only [h2, if_true]
      cases bs[a]? <;> rfl
     ·
      simp only [h2, if_false]
def eD (n : Nat) (d : Dig) : List UInt8 := if 8 ≤ n then d.1 else []
def eN (n k : Nat) : List UInt8 := if 4 ≤ n then vi k else []
def eB (n : Nat) (b : UInt8) : List UInt8 := if n % 2 = 0 then [b] else []
def opOf (n : Nat) (d : Dig) (k : Nat) (b : UInt8) : OpD := ⟨if n % 2 = 0 then 1 else 2, decide (n / 2 % 2 = 1), ⟨decide (n / 4 = 1), d, (k : Int)⟩, b⟩
structure OkOp (x : OpD) : Prop where
 ref : refB x.at_ = true
 kind : x.kind = 1 ∨ x.kind = 2
 ins : x.kind = 1 → ¬ (x.left = true ∧ rootB x.at_ = true)
 del : x.kind = 2 → x.left = false ∧ x.byte = 0 ∧ rootB x.at_ = false
 n : x.at_.n ≤ 2000
theorem byte0 {b : UInt8} (h : ¬ (b.toNat : Int) ≠ 0) : b = 0 := by
 have : b.toNat = 0 := by omega
 exact UInt8.toNat_inj.1 this
theorem opB_opOf {n k : Nat} {d : Dig} {b : UInt8} (hn : n < 12) (hd : ¬ 8 ≤ n → d = Dig.zero) (h0 : 4 ≤ n → k ≠ 0) (h4 : ¬ 4 ≤ n → k = 0) : opB (opOf n d k b) = vi n ++ (eD n d ++ (eN n k ++ (eB n b ++ []))) := by
 have hnum : ∀ m : Nat, numB ((m : Nat) : Int) = vi m := numB_nat
 have hr1 : ∀ {o : Bool} {c : Dig} {m : Nat}, m ≠ 0 → rootB ⟨o, c, (m : Int)⟩ = false := fun {o c m} hm => by
  rw [Bool.eq_false_iff]; intro h; have := (root_iff _).1 h; simp only at this; omega
 have hr0 : rootB ⟨false, Dig.zero, ((0 : Nat) : Int)⟩ = true := by decide
 match n, hn with
 | 0, _ => obtain rfl := h4 om_; obtain rfl := hd om_; simp [opB, opOf, flagI, eD, eN, eB, show rootB ⟨false, Dig.zero, 0⟩ = true from hr0, show numB 0 = vi 0 from hnum 0]
 | 1, _ => obtain rfl := h4 om_; obtain rfl := hd om_; simp [opB, opOf, flagI, eD, eN, eB, show rootB ⟨false, Dig.zero, 0⟩ = true from hr0, show numB 1 = vi 1 from hnum 1]
 | 2, _ => obtain rfl := h4 om_; obtain rfl := hd om_; simp [opB, opOf, flagI, eD, eN, eB, show rootB ⟨false, Dig.zero, 0⟩ = true from hr0, show numB 2 = vi 2 from hnum 2]
 | 3, _ => obtain rfl := h4 om_; obtain rfl := hd om_; simp [opB, opOf, flagI, eD, eN, eB, show rootB ⟨false, Dig.zero, 0⟩ = true from hr0, show numB 3 = vi 3 from hnum 3]
 | 4, _ => simp [opB, opOf, flagI, eD, eN, eB, hnum, show numB 4 = vi 4 from hnum 4]
 | 5, _ => simp [opB, opOf, flagI, eD, eN, eB, hnum, show numB 5 = vi 5 from hnum 5]
 | 6, _ => simp [opB, opOf, flagI, eD, eN, eB, hnum, show numB 6 = vi 6 from hnum 6]
 | 7, _ => simp [opB, opOf, flagI, eD, eN, eB, hnum, show numB 7 = vi 7 from hnum 7]
 | 8, _ => simp [opB, opOf, flagI, eD, eN, eB, hnum, hr1 (h0 om_), show numB 8 = vi 8 from hnum 8]
 | 9, _ => simp [opB, opOf, flagI, eD, eN, eB, hnum, hr1 (h0 om_), show numB 9 = vi 9 from hnum 9]
 | 10, _ => simp [opB, opOf, flagI, eD, eN, eB, hnum, hr1 (h0 om_), show numB 10 = vi 10 from hnum 10]
 | 11, _ => simp [opB, opOf, flagI, eD, eN, eB, hnum, hr1 (h0 om_), show numB 11 = vi 11 from hnum 11]
theorem snd_op : Snd gop (fun x l => l = opB x ∧ True) := by
 rw [gop_eq]
 refine (snd_num.bind fun n => Snd.guard (Snd.bind (Snd.ite (c := 8 ≤ n) snd_dig (Snd.pure (x := Dig.zero))) fun d => Snd.bind (Snd.ite (c := 4 ≤ n) (snd_num.bind fun k => Snd.guard (Snd.pure (x := k))) (Snd.pure (x := 0))) fun k =>
  Snd.bind (Snd.ite (c := n % 2 = 0) snd_byte (Snd.pure (x := 0))) fun b => Snd.pure)).mono ?_
 rintro x l ⟨n, l1, l2, rfl, ⟨rfl, _⟩, hn, d, l3, l4, rfl, h3, k, l5, l6, rfl, h5, b, l7, l8, rfl, h7, rfl, rfl⟩
 refine ⟨?_, trivial⟩
 have e3 : l3 = eD n d ∧ (¬ 8 ≤ n → d = Dig.zero) := by
  unfold eD
  rcases h3 with ⟨h, rfl⟩ | ⟨h, rfl, rfl⟩
  ·
   exact ⟨by rw [if_pos h], fun h' => absurd h h'⟩
  ·
   exact ⟨by rw [if_neg h], fun _ => rfl⟩
 have e5 : l5 = eN n k ∧ (4 ≤ n → k ≠ 0) ∧ (¬ 4 ≤ n → k = 0) := by
  unfold eN
  rcases h5 with ⟨h, k', l9, l10, rfl, ⟨rfl, _⟩, hk, rfl, rfl⟩ | ⟨h, rfl, rfl⟩
  ·
   exact ⟨by rw [if_pos h, List.append_nil], fun _ => hk, fun h' => absurd h h'⟩
  ·
   exact ⟨by rw [if_neg h], fun h' => absurd h' h, fun _ => rfl⟩
 have e7 : l7 = eB n b := by
  unfold eB
  rcases h7 with ⟨h, rfl⟩ | ⟨h, rfl, rfl⟩
  ·
   rw [if_pos h]
  ·
   rw [if_neg h]
 obtain ⟨rfl, hd⟩ := e3
 obtain ⟨rfl, h0, h4⟩ := e5
 subst e7
 exact (opB_opOf om_ hd h0 h4).symm
def gcomR : Rdg ComD := gbind gnum fun n bs at_ => if 8 < n then .error 4 else gbind (fun bs at_ => gmany gdig bs n at_) (fun ps => gbind gtext fun au => gbind gtext fun no => gbind gnum fun m bs at_ => if 2000 < m then .error 4 else
 gbind (fun bs at_ => gmany gop bs m at_) (fun ops _ at_ => .ok (⟨ps, bs' au, bs' no, ops⟩, at_)) bs at_) bs at_
where bs' := Go.Fw.bs
theorem gcom_eq (b : List UInt8) : gcom b = gcomR b 0 := by
 unfold gcom gcomR gbind
 cases gnum b 0 with
 | error e => rfl
 | ok p =>
  obtain ⟨n, a⟩ := p
  simp only []
  by_cases h8 : 8 < n
  ·
   simp only [h8, if_true]
  simp only [h8, if_false]
  cases gmany gdig b n a with
  | error e => rfl
  | ok p =>
   obtain ⟨ps, a⟩ := p
   simp only []
   cases gtext b a with
   | error e => rfl
   | ok p =>
    obtain ⟨au, a⟩ := p
    simp only []
    cases gtext b a with
    | error e => rfl
    | ok p =>
     obtain ⟨no, a⟩ := p
     simp only []
     cases gnum b a with
     | error e => rfl
     | ok p =>
      obtain ⟨m, a⟩ := p
      simp only []
      by_cases h2 : 2000 < m
      ·
       simp only [h2, if_true]
      simp only [h2, if_false]
      cases gmany gop b m a <;> rfl
theorem MayOk.op {c : ComD} (h : MayOk c) {x : OpD} (hx : x ∈ c.ops) : OkOp x := by
 obtain ⟨j, hj⟩ := List.mem_iff_getElem?.1 hx
 have hn := h.n hx
 obtain ⟨h1, h2, h3, h4, _⟩ := rightX_zero (h.right' hj)
 refine ⟨h1, h4, fun hk ⟨a, b⟩ => h2 ⟨hk, a, b⟩, fun hk => ?_, hn.2⟩
 have h3' : ¬ (x.left = true ∨ (x.byte.toNat : Int) ≠ 0 ∨ rootB x.at_ = true) := fun e => h3 ⟨hk, e⟩
 rw [not_or, not_or] at h3'
 exact ⟨by simpa using h3'.1, byte0 h3'.2.1, by simpa using h3'.2.2⟩
theorem snd_com : Snd gcomR (fun c l => l = comB c) := by
 refine (snd_num.bind fun n => Snd.guard (Snd.bind (snd_many (enc := fun d : Dig => d.1) (Q := fun _ => True) (snd_dig.mono fun d l h => ⟨h, trivial⟩) n) fun ps => snd_text.bind fun au => snd_text.bind fun no => snd_num.bind fun m => Snd.guard
  (Snd.bind (snd_many snd_op m) fun ops => Snd.pure))).mono ?_
 rintro c l ⟨n, l1, l2, rfl, ⟨rfl, _⟩, _, ps, l3, l4, rfl, ⟨rfl, rfl, _⟩, au, l5, l6, rfl, ⟨rfl, _⟩, no, l7, l8, rfl, ⟨rfl, _⟩, m, l9, l10, rfl, ⟨rfl, _⟩, _, ops, l11, l12, rfl, ⟨rfl, rfl, _⟩, rfl, rfl⟩
 show _ = comB ⟨ps, bs au, bs no, ops⟩
 simp only [comB, List.append_assoc, List.append_nil, bs_toList]
theorem dec_just {b : List UInt8} {c : ComD} (h : decI b = .ok c) : mayI c = 0 ∧ comB c = b := by
 unfold decI at h
 rw [gcom_eq] at h
 split at h
 ·
  cases h
 rename_i c' a hg
 split at h
 ·
  cases h
 rename_i ha
 split at h
 ·
  cases h
 rename_i hm
 injection h with h
 subst h
 obtain ⟨_, _, h3⟩ := snd_com b 0 _ _ (Nat.zero_le _) hg
 refine ⟨by simpa using hm, ?_⟩
 have e : a = b.length := by simpa using ha
 rw [← h3, e]
 simp
end Go.Pl
