/- Parts of a proof: what its last text leans on. No condition. -/
import Derived.WideLaws
import Derived.Test.YtfanmpbapabboaaDoorK04
import Derived.Test.YtfanmpbapabboaaDoorK14
import Derived.Test.YtfanmpbapabboaaDoorK20
set_option linter.unusedSimpArgs false
set_option linter.unusedVariables false
/- pack.Read, walked: it answers as the plain reading does. No condition. -/
namespace Go.Fw
open Go.RowKit
section
variable {P : Program} {n : NN} {fr : Fr} {w : World} {ty : TypeId}
theorem cut_bs (p : List UInt8) {i j : Nat} (h : j ≤ p.length) : (bs p).extract i j = bs ((p.drop i).take (j - i)) := by
 apply ByteArray.ext
 rw [ByteArray.data_extract]
 show p.toArray.extract i j = ((p.drop i).take (j - i)).toArray
 apply Array.ext'
 simp [Array.toList_extract, List.extract_eq_take_drop]
theorem Y.strHead {x hi : Operand} {p : List UInt8} {t : TypeId} {j : Nat} {kj : IntKind} {zj : Int} (hT : P.underlying t = some .string) (hx : ev fr x = some (.string (bs p))) (hhi : ev fr hi = some (.int kj zj)) (hj' : zj = (j : Int)) (h2 : j ≤ p.length) :
  Yw P n fr (.slice t x none (some hi) none) ty w (.string (bs (p.take j))) w := fun b o' ho _ ha => by
 subst hj'
 have e2 : (0 : Int) ≤ (j : Int) := by omega
 have e3 := cut_bs p (i := 0) h2
 rw [List.drop_zero, Nat.sub_zero] at e3
 have e4 : j ≤ (bs p).size := by rw [bs_size]; exact h2
 simp [execOp, ho, ha.ev hx, ha.ev hhi, Instr.sliceAt, Instr.slice, run_underlying hT, Instr.sliceBounds, Instr.sliceBound, asIntOf, e2, e3, e4]
theorem Y.strTail {x lo : Operand} {p : List UInt8} {t : TypeId} {i : Nat} {ki : IntKind} {zi : Int} (hT : P.underlying t = some .string) (hx : ev fr x = some (.string (bs p))) (hlo : ev fr lo = some (.int ki zi)) (hi' : zi = (i : Int)) (h2 : i ≤ p.length) :
  Yw P n fr (.slice t x (some lo) none none) ty w (.string (bs (p.drop i))) w := fun b o' ho _ ha => by
 subst hi'
 have e2 : (0 : Int) ≤ (i : Int) := by omega
 have e3 := cut_bs p (i := i) (j := (bs p).size) (by rw [bs_size]; exact Nat.le_refl _)
 rw [List.take_of_length_le (by rw [bs_size, List.length_drop]; exact Nat.le_refl _)] at e3
 have e4 : i ≤ (bs p).size := by rw [bs_size]; exact h2
 simp [execOp, ho, ha.ev hx, ha.ev hlo, Instr.sliceAt, Instr.slice, run_underlying hT, Instr.sliceBounds, Instr.sliceBound, asIntOf, e2, e3, e4]
theorem Rep.unput {n : NN} {a : Act} {g : Fr} {d : Nat} {v : Value} (h : Rep n (a.put (some d) v) g) (hd : g.get d = none) : Rep n a g := by
 refine ⟨by simpa [Act.put] using h.size, h.defers, fun t x hx => ?_⟩
 have h1 := h.get t x hx
 have hne : d ≠ t := by rintro rfl; rw [hd] at hx; cases hx
 simpa [Act.put, Array.getElem?_setIfInBounds, hne] using h1
theorem RH.takeG {ops : Array Oper} {S : World → Prop} {Φ : Exit → Fr → World → Prop} {fuel : Nat} {listed : Array Bool} (g : Fr) (i : Nat) {d : Nat} {o : Op} {ty : TypeId} {pos : String} {aft : Array Edge} {v : Value}
  (hQ : ∀ c f w, Φ (.panic c) f w → Fr.le g f ∧ Φ (.panic c) g w) (hgd : g.get d = none) (hs : Region.noSelect ops = true) (hS : S w)
  (hi : ops[i]? = some ⟨some d, o, ty, pos, aft, none⟩) (hf : Region.free .any ops listed i = true) (hr : (Region.ready .any ops listed).contains i = true)
  (hy : ∀ w, S w → Yw P n fr o ty w v w) (hd : d < n.1) (h : RH P ops S n Φ fuel (listed.setIfInBounds i true) ((d, v) :: fr) w) : RH P ops S n Φ (fuel + 1) listed fr w := fun a ha =>
 wpAnyH_take hi hs hf hr (fun c a w ⟨f, hf, hp⟩ => ⟨g, (hf.weaken (hQ c f w hp).1).unput hgd, (hQ c f w hp).2⟩)
  (.inl ⟨by simp [Region.wanted], fun w hw => hy w hw a _ rfl rfl ha⟩) hS (h _ (ha.put hd v))
theorem Y.assertN {x : Operand} {t xt : TypeId} {v : Value} {k : IntKind} (hT : P.underlying t = some (.int k)) (hx : ev fr x = some (.iface t v)) : Yw P n fr (.typeAssert x xt t false) ty w v w := fun b o' ho _ ha => by
 simp [execOp, ho, ha.ev hx, Instr.typeAssert, run_underlying hT]
theorem Y.neq_heldP {x y : Operand} {t t' u : TypeId} {v : Value} (h : P.underlying t = some (.interface (P.methodsAt t))) (hx : ev fr x = some (.iface u v)) (hy : ev fr y = some .nilIface) : Yw P n fr (.binOp .neq t x y t') ty w (.bool true) w :=
 Y.bin hx hy (by simp [eqGuard]) (run_neq_held_nil w t u v h)
theorem Y.neq_nilsP {x : Operand} {t t' : TypeId} (h : P.underlying t = some (.interface (P.methodsAt t))) (hx : ev fr x = some .nilIface) : Yw P n fr (.binOp .neq t x (.const .nilIface) t') ty w (.bool false) w :=
 Y.bin hx rfl (by simp [eqGuard]) (run_neq_nil_nil w t h)
end
end Go.Fw
namespace Go.Pl
open Go.Fw
section
variable {b : List UInt8} {ids : List Dig} {l : List (List UInt8)} {ahead s : List UInt8} {depth at_ n a dp : Nat} {d : Dig} {e : Int}
theorem robjs_e (h : robj b ids ahead depth at_ = .error e) : robjs b (n + 1) ids l ahead depth at_ = .error e := by rw [robjs, h]
theorem robjs_s (h : robj b ids ahead depth at_ = .ok ((d, s, dp), a)) : robjs b (n + 1) ids l ahead depth at_ = robjs b n (ids ++ [d]) (l ++ [s]) s dp a := by rw [robjs, h]
theorem rbody_1 (h : gnum b 3 = .error e) : rbody b = .error e := by rw [rbody, h]
theorem rbody_2 (h : gnum b 3 = .ok (n, a)) (hn : 500 < n) : rbody b = .error 4 := by rw [rbody, h]; simp only []; rw [if_pos hn]
theorem rbody_3 (h : gnum b 3 = .ok (n, a)) (hn : ¬ 500 < n) (hr : robjs b n [] [] [] 0 a = .error e) : rbody b = .error e := by rw [rbody, h]; simp only []; rw [if_neg hn, hr]
theorem rbody_4 (h : gnum b 3 = .ok (n, a)) (hn : ¬ 500 < n) (hr : robjs b n [] [] [] 0 a = .ok (l, at_)) (ht : at_ ≠ b.length) : rbody b = .error 7 := by rw [rbody, h]; simp only []; rw [if_neg hn, hr]; simp only []; rw [if_pos ht]
theorem rbody_5 (h : gnum b 3 = .ok (n, a)) (hn : ¬ 500 < n) (hr : robjs b n [] [] [] 0 a = .ok (l, at_)) (ht : at_ = b.length) : rbody b = .ok l := by rw [rbody, h]; simp only []; rw [if_neg hn, hr]; simp only []; rw [if_neg (not_not_intro ht)]
end
section
variable {p : List UInt8}
theorem rdP_1 (h : 1048576 < p.length) : rdP p = .error 3 := by rw [rdP, if_pos h]
variable (h : ¬ 1048576 < p.length)
include h
theorem rdP_2 (h2 : p.length < 3 ∨ p.take 3 ≠ [82, 80, 49]) : rdP p = .error 7 := by rw [rdP, if_neg h, if_pos h2]
variable (h2 : ¬ (p.length < 3 ∨ p.take 3 ≠ [82, 80, 49]))
include h2
theorem rdP_3 (h3 : p.length < 35) : rdP p = .error 8 := by rw [rdP, if_neg h, if_neg h2, if_pos h3]
variable (h3 : ¬ p.length < 35)
include h3
theorem rdP_4 {q : Nat} (hq : q + 32 = p.length) (h4 : (shaD (p.take q)).1 ≠ p.drop q) : rdP p = .error 10 := by
 rw [rdP, if_neg h, if_neg h2, if_neg h3, show p.length - 32 = q from by omega, if_pos h4]
theorem rdP_5 {q : Nat} (hq : q + 32 = p.length) (h4 : (shaD (p.take q)).1 = p.drop q) : rdP p = rbody (p.take q) := by
 rw [rdP, if_neg h, if_neg h2, if_neg h3, show p.length - 32 = q from by omega, if_neg (not_not_intro h4)]
end
theorem robj_len {b : List UInt8} {ids : List Dig} {ahead s : List UInt8} {depth at_ a dp : Nat} {d : Dig} (h : robj b ids ahead depth at_ = .ok ((d, s, dp), a)) (hat : at_ ≤ b.length) (hb : b.length ≤ 1048576) : at_ + 32 ≤ a ∧ a ≤ b.length ∧ s.length ≤ 131072 ∧ dp ≤ 4 := by
 cases hg : gdig b at_ with
 | error e => rw [robj_e1 hg] at h; cases h
 | ok x1 =>
 obtain ⟨d1, a1⟩ := x1
 have h1 : a1 = at_ + 32 ∧ a1 ≤ b.length := by
  unfold gdig at hg
  split at hg
  ·
   injection hg with hg; injection hg with _ hg; omega
  ·
   cases hg
 cases hbh : behind ids d1 with
 | false => rw [robj_e2 hg hbh] at h; cases h
 | true =>
 cases hn : gnum b a1 with
 | error e => rw [robj_e3 hg hbh hn] at h; cases h
 | ok x2 =>
 obtain ⟨k, a2⟩ := x2
 have h2 := gnum_len hn h1.2
 by_cases hk : 1 < k ∨ (k = 1 ∧ ids = [])
 ·
  rw [robj_e4 hg hbh hn hk] at h; cases h
 by_cases hd : 4 < (depth + 1) * k
 ·
  rw [robj_e5 hg hbh hn hk hd] at h; cases h
 cases ht : gtext b a2 with
 | error e => rw [robj_e6 hg hbh hn hk hd ht] at h; cases h
 | ok x3 =>
 obtain ⟨s1, a3⟩ := x3
 have h3 := gtext_len ht h2.2
 have key : ∀ t : List UInt8, t.length ≤ 131072 → ((k = 1 ∧ apB ahead s1 = (t, 0)) ∨ (k ≠ 1 ∧ t = s1)) → at_ + 32 ≤ a ∧ a ≤ b.length ∧ s.length ≤ 131072 ∧ dp ≤ 4 := by
  intro t htl hr
  rw [robj_last hg hbh hn hk hd ht hr] at h
  split at h
  ·
   cases h
  ·
   injection h with h
   obtain ⟨h4, h5⟩ := Prod.mk.inj h
   obtain ⟨_, h6⟩ := Prod.mk.inj h4
   obtain ⟨h7, h8⟩ := Prod.mk.inj h6
   subst h5; subst h7; subst h8
   exact ⟨by omega, h3.2.1, htl, by omega⟩
 by_cases h1 : k = 1
 ·
  by_cases ha : (apB ahead s1).2 = 0
  ·
   exact key (apB ahead s1).1 (by have := apB_len ahead s1; omega) (.inl ⟨h1, Prod.ext rfl ha⟩)
  ·
   rw [robj_e7 hg hbh hn hk hd ht h1 ha] at h; cases h
 ·
  exact key s1 h3.2.2 (.inr ⟨h1, rfl⟩)
end Go.Pl
namespace Go.Proofs.YtfanmpbapabboaaDoor
open Go.RowKit Go.Fw Go.Pl Go.Sort
abbrev TEr : TypeId := 24
theorem anyP_under : Tryd.prog.underlying 20 = some (.interface (Tryd.prog.methodsAt 20)) := by kernel_rfl
theorem build_preader (A : Option Addr) (m c : Nat) (w : World) : (Instr.build TPk [(0, Value.slice A m c), (1, .int .i64 3)].toArray).run Tryd.prog w = .ok (.agg [Value.slice A m c, .int .i64 3].toArray) w := run_build w _ _ _ kr_
theorem info_pk : ∃ i : TypeInfo, Tryd.prog.info? TPk = some i ∧ i.zero = some (.agg #[.slice none 0 0, .int .i64 0]) ∧ i.size = 2 := by
 have h : (Tryd.prog.info? TPk).map (fun i => (i.zero, i.size)) = some (some (.agg #[.slice none 0 0, .int .i64 0]), 2) := by kernel_rfl
 obtain ⟨i, hi, h⟩ := Option.map_eq_some_iff.1 h
 obtain ⟨h1, h2⟩ := Prod.mk.inj h
 exact ⟨i, hi, h1, h2⟩
theorem info_ssP : ∃ i : TypeInfo, Tryd.prog.info? TSs = some i ∧ i.zero = some (.slice none 0 0) := by
 have h : (Tryd.prog.info? TSs).map (fun i => i.zero) = some (some (.slice none 0 0)) := by kernel_rfl
 obtain ⟨i, hi, h⟩ := Option.map_eq_some_iff.1 h
 exact ⟨i, hi, h⟩
theorem as_packreader {n : NN} {Φ : Exit → Fr → World → Prop} {fr : Fr} {w : World} {ops : Array Oper} {rest : List Oper} {d : Nat} {x : Operand} {ty ty' : TypeId} {pos pos' : String} {aft aft' : Array Edge} {A : Option Addr} {m c : Nat} {p : Int}
  (hx : ev fr x = some (.agg [Value.slice A m c, .int .i64 p].toArray)) (hxd : x ≠ .tmp d) (hd : d < n.1)
  (h : ∀ g w', Ext w w' → w.heap.size ≤ g → Blk w' g TPk [Value.slice A m c, .int .i64 p] → WL Tryd.prog ops n Φ rest ((d, .pointer (some ⟨g, 0, none⟩)) :: fr) w') :
  WL Tryd.prog ops n Φ (⟨some d, .alloc TPk, ty, pos, aft, none⟩ :: ⟨none, .store TPk (.tmp d) x, ty', pos', aft', none⟩ :: rest) fr w := by
 obtain ⟨i, hi, hz, hs⟩ := info_pk
 exact WL.allocStore (zs := [.slice none 0 0, .int .i64 0]) (cs := [Value.slice A m c, .int .i64 p]) hi hz rfl (by rw [hs]; rfl) rfl hx hxd rfl (by intro u hu; simp at hu; rcases hu with rfl | rfl <;> rfl) hd h
@[reducible] def DoneH (g : Fr) (D : Fr → World → Prop) (S : List PanicEntry → World → Prop) : Exit → Fr → World → Prop
 | .normal, fr, w => D fr w
 | .ret, fr, w => D fr w
 | .panic ch, fr, w => Fr.le g fr ∧ S ch w
 | _, _, _ => False
abbrev RdG (p : List UInt8) (gl ge : Nat) (w : World) (ch : List PanicEntry) (w' : World) : Prop := ∃ e, rdP p = .error e ∧ ch = pan e ∧ Chg (fun k => k = gl ∨ k = ge) w w' ∧ (∃ x, Blk w' gl TSs [x]) ∧ Blk w' ge TEr [.int .i64 0]
abbrev RdD (p : List UInt8) (gl ge : Nat) (w : World) (f : Fr) (w' : World) : Prop := Fr.le [(2, .pointer (some ⟨gl, 0, none⟩)), (3, .pointer (some ⟨ge, 0, none⟩))] f ∧ ∃ l lv, rdP p = .ok l ∧ Blk w' gl TSs [lv] ∧ Own w' TStr 1 lv (flatS l) ∧ (∀ k, lv.ownBlock = some k → w.heap.size ≤ k) ∧ Blk w' ge TEr [.int .i64 0] ∧ Chg (fun k => k = gl ∨ k = ge) w w'
structure RdI where
 i : Nat
 ids : List Dig
 l : List (List UInt8)
 ah : List UInt8
 dp : Nat
 at_ : Nat
 uv : Value
 lv : Value
structure RdAt (V : World) (W gl ge g5 : Nat) (bv : Value) (b : List UInt8) (n a1 : Nat) (s : RdI) : Prop where
 le : s.i ≤ n
 run : robjs b (n - s.i) s.ids s.l s.ah s.dp s.at_ = robjs b n [] [] [] 0 a1
 B5 : Blk V g5 TPk [bv, .int .i64 (s.at_ : Int)]
 hat : s.at_ ≤ b.length
 ids : Own V TDg 32 s.uv (flatD s.ids)
 idw : ∀ k, s.uv.ownBlock = some k → W ≤ k ∧ s.lv.ownBlock ≠ some k
 G : Blk V gl TSs [s.lv]
 L : Own V TStr 1 s.lv (flatS s.l)
 lw : ∀ k, s.lv.ownBlock = some k → W ≤ k
 H : Blk V ge TEr [.int .i64 0]
 ni : s.ids.length = s.i
 nl : s.l.length = s.i
 ah : s.ah.length ≤ 140737488351232
 dp : s.dp ≤ 4
 hb : By V bv b
 hw : W ≤ V.heap.size
def RdAns (p : List UInt8) (w : World) (v : Value) (w' : World) : Prop := ∃ lv, Ext w w' ∧ (∀ k, lv.ownBlock = some k → w.heap.size ≤ k) ∧ ((∃ l, rdP p = .ok l ∧ v = .tuple #[lv, .int .i64 0] ∧ Own w' TStr 1 lv (flatS l)) ∨ (∃ e, rdP p = .error e ∧ v = .tuple #[lv, .int .i64 e] ∧ lv = .slice none 0 0))
theorem rd_res {gl ge : Nat} {a : Act} {n : NN} {fr : Fr} {w : World} {lv v : Value} (hr : Rep n a fr) (h2 : fr.get 2 = some (.pointer (some ⟨gl, 0, none⟩))) (h3 : fr.get 3 = some (.pointer (some ⟨ge, 0, none⟩))) (hG : Blk w gl TSs [lv]) (hH : Blk w ge TEr [v]) :
  (results Tryd.f16 a.tmps).run Tryd.prog w = .ok (.tuple #[lv, v]) w := by
 have e2 := hr.get 2 _ h2
 have e3 := hr.get 3 _ h3
 have l1 := run_loadVar1 (P := Tryd.prog) (w := w) (a := ⟨gl, 0, none⟩) (v := lv) Tryd.underlying22 rfl hG.mem.cell0
 have l2 := run_loadVar1 (P := Tryd.prog) (w := w) (a := ⟨ge, 0, none⟩) (v := v) Tryd.underlying24 rfl hH.mem.cell0
 simp [results, Tryd.results16, e2, e3, asAddr, l1, l2]
theorem rcatch_idle (pc pe : Value) (w : World) :
  CallsD Tryd.prog 32 #[pc, pe] .returning w fun r u' w' => r = .returned (.tuple #[]) ∧ u' = .returning ∧ w' = w := by
 refine callsD_of_wpS Tryd.func32 rfl fun c₀ ks hu => ?_
 apply wpS_seq
 apply wpS_region
 simp [wpOpsS, go_sem, recoverD, hu, Tryd.ntmps32, Exit.thenS]
 refine wpS_of_wp (CW.wp (n := (8, [], none)) (fr := [(0, pc), (1, pe), (2, .nilIface)]) (Φ := DoneG (fun _ w' => w' = w) (fun _ _ => False)) ?_ ?_ ?_)
 ·
  refine CW.sr fun K1 hK1 => ?_
  refine WL.m rfl ?_
  refine WL.v (Y.neq_nilsP anyP_under rfl) ?_
  refine WL.nil ?_
  refine hK1 _ _ ?_
  refine CW.condF rfl ?_
  exact CW.skip rfl
 ·
  refine ⟨by simp, rfl, fun t v h => ?_⟩
  have h := args3 t v h
  match t, h with
  | 0, h => simpa using h
  | 1, h => simpa using h
  | 2, h => simpa using h
  | t + 3, h => simp at h
 ·
  intro e' f a' w' hr hp
  have hc : ({ c₀ with mode := .returning } : Frame) = c₀ := by subst_vars; cases c₀; simp_all
  cases e' with
  | normal => exact ⟨hr.defers, .returning, by rw [hc], _, run_results (ts := []) hr rfl rfl w', rfl, rfl, hp⟩
  | ret => exact ⟨hr.defers, .returning, by rw [hc], _, run_results (ts := []) hr rfl rfl w', rfl, rfl, hp⟩
  | exit id => exact hp.elim
  | goto l => exact hp.elim
  | panic ch => exact hp.elim
  | outgrown => exact hp.elim
theorem rcatch_pan (gl ge : Nat) (v0 v1 : Value) (e : Int) (older : List PanicEntry) (w : World) (hG : Blk w gl TSs [v0]) (hH : Blk w ge TEr [v1]) (hne : gl ≠ ge) :
  CallsD Tryd.prog 32 #[.pointer (some ⟨gl, 0, none⟩), .pointer (some ⟨ge, 0, none⟩)] (.panicking ({ v := .iface TEr (.int .i64 e), recovered := false } :: older)) w fun r u' w' =>
   r = .returned (.tuple #[]) ∧ u' = .panicking ({ v := .iface TEr (.int .i64 e), recovered := true } :: older) ∧ Chg (fun k => k = gl ∨ k = ge) w w' ∧ Blk w' gl TSs [.slice none 0 0] ∧ Blk w' ge TEr [.int .i64 e] := by
 refine callsD_of_wpS Tryd.func32 rfl fun c₀ ks hu => ?_
 apply wpS_seq
 apply wpS_region
 simp [wpOpsS, go_sem, recoverD, hu, Tryd.ntmps32, Exit.thenS]
 refine wpS_of_wp (CW.wp (n := (8, [], none)) (fr := [(0, .pointer (some ⟨gl, 0, none⟩)), (1, .pointer (some ⟨ge, 0, none⟩)), (2, .iface TEr (.int .i64 e))]) (Φ := DoneG (fun _ w' => Chg (fun k => k = gl ∨ k = ge) w w' ∧ Blk w' gl TSs [.slice none 0 0] ∧ Blk w' ge TEr [.int .i64 e]) (fun _ _ => False)) ?_ ?_ ?_)
 ·
  skip
  refine CW.sr fun K1 hK1 => ?_
  refine WL.val (Y.move rfl) dx_ ?_
  refine WL.val (Y.neq_heldP anyP_under rfl rfl) dx_ ?_
  refine WL.nil (hK1 _ _ ?_); try clear hK1
  refine CW.condT rfl ?_
  ·
   -- then
   refine CW.held (fun wq => Chg (fun k => k = gl ∨ k = ge) w wq) kr_ 4 rfl fun w1 hx1 => ?_
   have hS : Chg (fun k => k = gl ∨ k = ge) w w1 := hx1.chg
   have hG1 := hG.ext hx1
   have hH1 := hH.ext hx1
   refine RH.take 0 (fun _ _ _ _ h => h) kr_ hS rfl kr_ kr_ (fun wq hq => Y.move rfl) dx_ ?_
   refine RH.take 1 (fun _ _ _ _ h => h) kr_ hS rfl kr_ kr_ (fun wq hq => Y.assertN Tryd.underlying24 rfl) dx_ ?_
   refine RH.one 2 kr_ ?_
   refine RS.store rfl (g := gl) (pre := []) (old := [v0]) (post := []) (new := [.slice none 0 0]) rfl rfl rfl rfl kr_ (by simpa using hG1) rfl (one1 rfl) (fun w2 hc2 hB2_ => ?_)
   have hS := hS.trans hc2 (fun k _ h => .inl h)
   have hG2 : Blk w2 gl TSs [.slice none 0 0] := by simpa using hB2_
   have hH2 := hH1.chg hc2 (fun h => by have h : ge = gl := h; omega)
   refine ⟨hS, ?_⟩
   refine RH.one 3 kr_ ?_
   refine RS.store rfl (g := ge) (pre := []) (old := [v1]) (post := []) (new := [.int .i64 e]) rfl rfl rfl rfl kr_ (by simpa using hH2) rfl (one1 rfl) (fun w3 hc3 hB3_ => ?_)
   have hS := hS.trans hc3 (fun k _ h => .inr h)
   have hH3 : Blk w3 ge TEr [.int .i64 e] := by simpa using hB3_
   have hG3 := hG2.chg hc3 (fun h => by have h : gl = ge := h; omega)
   refine ⟨hS, ?_⟩
   refine RH.done kr_ ?_
   skip
   exact ⟨hS, hG3, hH3⟩
 ·
  refine ⟨by simp, rfl, fun t v h => ?_⟩
  have h := args3 t v h
  match t, h with
  | 0, h => simpa using h
  | 1, h => simpa using h
  | 2, h => simpa using h
  | t + 3, h => simp at h
 ·
  intro e' f a' w' hr hp
  cases e' with
  | normal => exact ⟨hr.defers, _, rfl, _, run_results (ts := []) hr rfl rfl w', rfl, rfl, hp⟩
  | ret => exact ⟨hr.defers, _, rfl, _, run_results (ts := []) hr rfl rfl w', rfl, rfl, hp⟩
  | exit id => exact hp.elim
  | goto l => exact hp.elim
  | panic ch => exact hp.elim
  | outgrown => exact hp.elim
set_option maxRecDepth 100000 in
set_option maxHeartbeats 4000000 in
theorem pread_any (p : List UInt8) (w00 : World) (hK0 : Mem w00 ⟨0, 0, none⟩ (wds keysL)) : Calls Tryd.prog 16 #[.string (bs p)] w00 (Ret (RdAns p w00)) := by
 obtain ⟨il, hil, hzl⟩ := info_ssP
 obtain ⟨ie, hie, hze⟩ := info_errW
 obtain ⟨id, hid, hzd, _⟩ := info_apiDigest
 have hk00 : (0 : Nat) < w00.heap.size := hK0.lt (fun h => by cases h)
 have hsz := bs_size p
 refine calls_of_wp_defers Tryd.func16 rfl ?_
 have ha : Rep (79, [], none) { tmps := #[Value.string (bs p)] ++ Array.replicate (Tryd.f16.ntmps - #[Value.string (bs p)].size) undef, defers := [] } [(0, .string (bs p))] := by
  refine ⟨by simp [Tryd.ntmps16], rfl, fun t v h => ?_⟩
  have h := args1 t v h
  match t, h with
  | 0, h => simpa using h
  | t + 1, h => simp at h
 generalize ({ tmps := #[Value.string (bs p)] ++ Array.replicate (Tryd.f16.ntmps - #[Value.string (bs p)].size) undef, defers := [] } : Act) = a0 at ha ⊢
 refine wp_seq (CW.wp (Φ := fun e f w' => e = .normal ∧ ∃ gl ge, Fr.le [(0, .string (bs p)), (2, .pointer (some ⟨gl, 0, none⟩)), (3, .pointer (some ⟨ge, 0, none⟩))] f ∧ Ext w00 w' ∧ w00.heap.size ≤ gl ∧ gl < ge ∧ Blk w' gl TSs [.slice none 0 0] ∧ Blk w' ge TEr [.int .i64 0]) ?_ ha ?_)
 ·
  refine CW.region ?_
  refine WL.alloc hil hzl rfl dx_ fun gl w1 hx1 hg1 hB1 => ?_
  refine WL.alloc hie hze rfl dx_ fun ge w2 hx2 hg2 hB2 => ?_
  refine WL.nil ?_
  exact ⟨rfl, gl, ge, Fr.ok, hx1.thenExt hx2, hg1, Nat.lt_of_lt_of_le hB1.lt hg2, hB1.ext hx2, hB2⟩
 rintro e f a1_ w hr ⟨rfl, gl, ge, hle, hx0, hg1, hlg, hG, hH⟩
 have hr := hr.weaken hle
 have hgl0 : 0 < gl := by omega
 have hK := hK0.ext hx0
 have hz0 := hx0.size
 have hGl := hG.lt
 have hHl := hH.lt
 show Code.wp _ _ _ _ _
 refine wp_defer hr rfl dx_ fun a3_ hr3 => ?_
 refine CW.wp (Φ := DoneH [(2, .pointer (some ⟨gl, 0, none⟩)), (3, .pointer (some ⟨ge, 0, none⟩))] (RdD p gl ge w) (RdG p gl ge w)) ?_ hr3 ?_
 ·
  have hE : Chg (fun k => k = gl ∨ k = ge) w w := Chg.refl
  refine CW.sr fun K1 hK1 => ?_
  refine WL.val (Y.move rfl) dx_ ?_
  refine WL.val (Y.len_string Tryd.underlying9 rfl) dx_ ?_
  refine WL.val (Y.gtr rfl rfl) dx_ ?_
  refine WL.callOr Tryd.func33 rfl rfl rfl (prefuse_any _ _ _) (by simp) (fun ch w1 hP1 => ?_) ?_
  ·
   skip
   obtain ⟨h1, rfl, hx⟩ := hP1
   exact (show Fr.le _ _ ∧ RdG p gl ge w _ _ from ⟨Fr.ok, 3, rdP_1 (by have := of_decide_eq_true h1; omega), rfl, hE.thenExt hx, ⟨_, hG.ext hx⟩, hH.ext hx⟩)
  rintro v15 w1 hR1
  obtain ⟨h1, rfl, hx1⟩ := hR1
  have hz1 := hx1.size
  have hE := hE.thenExt hx1
  have hK := hK.ext hx1
  have hG := hG.ext hx1
  have hH := hH.ext hx1
  have hn1 : ¬ 1048576 < p.length := by have := of_decide_eq_false h1; omega
  refine WL.nil (hK1 _ _ ?_); try clear hK1
  refine CW.seq_to (X := Unit) (fun _ => [(0, .string (bs p)), (2, .pointer (some ⟨gl, 0, none⟩)), (3, .pointer (some ⟨ge, 0, none⟩))]) (fun _ w0 => ¬ (p.length < 3 ∨ p.take 3 ≠ [82, 80, 49]) ∧ Ext w1 w0) ?_ ?_
  ·
   skip
   refine CW.region ?_
   refine WL.val (Y.move rfl) dx_ ?_
   refine WL.val (Y.len_string Tryd.underlying9 rfl) dx_ ?_
   refine WL.val (Y.lss rfl rfl) dx_ ?_
   refine WL.val (Y.move rfl) dx_ ?_
   (first | refine WL.casesD (d := 19) rfl ?_ ?_ | refine WL.casesND (d := 19) rfl ?_ ?_ | refine WL.cases (d := 19) rfl ?_ ?_) <;> intro hg19
   ·
    -- t19 = T
    refine WL.goff rfl rfl dx_ ?_
    refine WL.goff rfl rfl dx_ ?_
    refine WL.goff rfl rfl dx_ ?_
    refine WL.val (Y.pick rfl rfl) dx_ ?_
    refine WL.callOr Tryd.func33 rfl rfl rfl (prefuse_any _ _ _) (by simp) (fun ch w2 hP2 => ?_) ?_
    ·
     skip
     obtain ⟨h1, rfl, hx⟩ := hP2
     exact (show Fr.le _ _ ∧ RdG p gl ge w _ _ from ⟨Fr.ok, 7, rdP_2 hn1 (.inl om_), rfl, hE.thenExt hx, ⟨_, hG.ext hx⟩, hH.ext hx⟩)
    rintro v24 w2 hR2
    obtain ⟨h1, rfl, hx2⟩ := hR2
    refine WL.nil ?_
    exact absurd h1 (by simp)
   ·
    -- t19 = F
    refine WL.gval rfl rfl (Y.move rfl) dx_ ?_
    refine WL.gval rfl rfl (Y.strHead (j := 3) Tryd.underlying9 rfl rfl om_ om_) dx_ ?_
    refine WL.gval rfl rfl (Y.neq_string rfl rfl) dx_ ?_
    refine WL.val (Y.pick rfl rfl) dx_ ?_
    refine WL.callOr Tryd.func33 rfl rfl rfl (prefuse_any _ _ _) (by simp) (fun ch w3 hP3 => ?_) ?_
    ·
     skip
     obtain ⟨h1, rfl, hx⟩ := hP3
     exact (show Fr.le _ _ ∧ RdG p gl ge w _ _ from ⟨Fr.ok, 7, rdP_2 hn1 (.inr (by simpa [bs_toList] using h1)), rfl, hE.thenExt hx, ⟨_, hG.ext hx⟩, hH.ext hx⟩)
    rintro v24 w3 hR3
    obtain ⟨h1, rfl, hx3⟩ := hR3
    refine WL.nil ?_
    exact ⟨(), Fr.ok, by rintro (h | h); omega; exact h (by simpa [bs_toList] using h1), hx3⟩
  rintro u w4 hj4
  obtain ⟨hn2, hx4⟩ := hj4
  have hz4 := hx4.size
  have hE := hE.thenExt hx4
  have hK := hK.ext hx4
  have hG := hG.ext hx4
  have hH := hH.ext hx4
  refine CW.sr fun K2 hK2 => ?_
  refine WL.val (Y.move rfl) dx_ ?_
  refine WL.val (Y.len_string Tryd.underlying9 rfl) dx_ ?_
  refine WL.val (Y.sub rfl rfl o2_) dx_ ?_
  refine WL.val (Y.assign rfl) dx_ ?_
  refine WL.nil (hK2 _ _ ?_); try clear hK2
  refine CW.sr fun K3 hK3 => ?_
  refine WL.val (Y.move rfl) dx_ ?_
  refine WL.val (Y.lss rfl rfl) dx_ ?_
  refine WL.callOr Tryd.func33 rfl rfl rfl (prefuse_any _ _ _) (by simp) (fun ch w5 hP5 => ?_) ?_
  ·
   skip
   obtain ⟨h1, rfl, hx⟩ := hP5
   exact (show Fr.le _ _ ∧ RdG p gl ge w _ _ from ⟨Fr.ok, 8, rdP_3 hn1 hn2 (by have := of_decide_eq_true h1; omega), rfl, hE.thenExt hx, ⟨_, hG.ext hx⟩, hH.ext hx⟩)
  rintro v30 w5 hR5
  obtain ⟨h1, rfl, hx5⟩ := hR5
  have hz5 := hx5.size
  have hE := hE.thenExt hx5
  have hK := hK.ext hx5
  have hG := hG.ext hx5
  have hH := hH.ext hx5
  have hn3 : ¬ p.length < 35 := by have := of_decide_eq_false h1; omega
  obtain ⟨q, hq⟩ : ∃ q : Nat, q + 32 = p.length := ⟨p.length - 32, by omega⟩
  rw [show ((bs p).size : Int) - 32 = (q : Int) from by omega]
  have hlen : (p.drop q).length = 32 := by rw [List.length_drop]; omega
  have hlt : (p.take q).length = q := by rw [List.length_take]; omega
  obtain ⟨dd, hdd⟩ : ∃ dd : Dig, dd = ⟨p.drop q, hlen⟩ := ⟨_, rfl⟩
  refine WL.nil (hK3 _ _ ?_); try clear hK3
  refine CW.seq_to (X := Unit) (fun _ => [(0, .string (bs p)), (2, .pointer (some ⟨gl, 0, none⟩)), (3, .pointer (some ⟨ge, 0, none⟩)), (4, .int .i64 (q : Int))]) (fun _ w0 => (shaD (p.take q)).1 = p.drop q ∧ Ext w5 w0) ?_ ?_
  ·
   skip
   refine CW.held (fun wq => Ext w5 wq) kr_ 13 rfl fun w6 hS => ?_
   refine RH.takeG [(2, .pointer (some ⟨gl, 0, none⟩)), (3, .pointer (some ⟨ge, 0, none⟩))] 0 (fun _ _ _ h => ⟨h.1, (fun _ _ h => h), h.2⟩) rfl kr_ hS rfl kr_ kr_ (fun wq hq => Y.move rfl) dx_ ?_
   refine RH.takeG [(2, .pointer (some ⟨gl, 0, none⟩)), (3, .pointer (some ⟨ge, 0, none⟩))] 1 (fun _ _ _ h => ⟨h.1, (fun _ _ h => h), h.2⟩) rfl kr_ hS rfl kr_ kr_ (fun wq hq => Y.move rfl) dx_ ?_
   refine RH.takeG [(2, .pointer (some ⟨gl, 0, none⟩)), (3, .pointer (some ⟨ge, 0, none⟩))] 2 (fun _ _ _ h => ⟨h.1, (fun _ _ h => h), h.2⟩) rfl kr_ hS rfl kr_ kr_ (fun wq hq => Y.strHead (j := q) Tryd.underlying9 rfl rfl om_ om_) dx_ ?_
   refine RH.takeG [(2, .pointer (some ⟨gl, 0, none⟩)), (3, .pointer (some ⟨ge, 0, none⟩))] 5 (fun _ _ _ h => ⟨h.1, (fun _ _ h => h), h.2⟩) rfl kr_ hS rfl kr_ kr_ (fun wq hq => Y.move rfl) dx_ ?_
   refine RH.takeG [(2, .pointer (some ⟨gl, 0, none⟩)), (3, .pointer (some ⟨ge, 0, none⟩))] 6 (fun _ _ _ h => ⟨h.1, (fun _ _ h => h), h.2⟩) rfl kr_ hS rfl kr_ kr_ (fun wq hq => Y.move rfl) dx_ ?_
   refine RH.takeG [(2, .pointer (some ⟨gl, 0, none⟩)), (3, .pointer (some ⟨ge, 0, none⟩))] 7 (fun _ _ _ h => ⟨h.1, (fun _ _ h => h), h.2⟩) rfl kr_ hS rfl kr_ kr_ (fun wq hq => Y.strTail (i := q) Tryd.underlying9 rfl rfl om_ om_) dx_ ?_
   refine RH.two 3 8 kr_ ?_ ?_
   ·
    skip
    refine RS.st rfl (St.strBytes Tryd.underlying9 Tryd.underlying32 Tryd.underlying5 rfl (by rw [bs_size]; rw [List.length_take]; omega)) dx_ fun v34 w7 hR7 => ?_
    obtain ⟨hO34, hx7, hf34⟩ := hR7
    rw [bs_toList] at hO34
    have hS := hS.thenExt hx7
    try have hm39 := hm39.ext hx7
    refine ⟨hS, ?_⟩
    refine RH.two 4 8 kr_ ?_ ?_
    ·
     skip
     refine RS.call rfl (fun _ _ h => by cases h) Tryd.func7 rfl rfl rfl (sum_any _ (p.take q) _ hO34.by (fun _ k hk => hO34.lt k hk) (hK.ext hS) (by rw [List.length_take]; omega)) dx_ fun v35 w8 hR8 => ?_
     obtain ⟨rfl, hx8⟩ := hR8
     have hS := hS.thenExt hx8
     try have hm39 := hm39.ext hx8
     refine ⟨hS, ?_⟩
     refine RH.one 8 kr_ ?_
     refine RS.st rfl (St.strBytes Tryd.underlying9 Tryd.underlying32 Tryd.underlying5 rfl (by rw [bs_size]; omega)) dx_ fun v39 w9 hR9 => ?_
     obtain ⟨hO39, hx9, hf39⟩ := hR9
     rw [bs_toList] at hO39
     obtain ⟨A39, m39, c39, rfl⟩ := hO39.lens
     obtain ⟨hl39, hc39, hcm39⟩ := hO39.by.len
     obtain ⟨a39, rfl, hm39⟩ := hO39.by.mem.1 om_
     have hm39 : Mem w9 a39 (digC dd) := by rw [hdd]; exact hm39
     have hS := hS.thenExt hx9
     try have hO34 := hO34.ext hx9
     refine ⟨hS, ?_⟩
     refine RH.takeG [(2, .pointer (some ⟨gl, 0, none⟩)), (3, .pointer (some ⟨ge, 0, none⟩))] 9 (fun _ _ _ h => ⟨h.1, (fun _ _ h => h), h.2⟩) rfl kr_ hS rfl kr_ kr_ (fun wq hq => Y.toArr Tryd.underlying30 rfl om_) dx_ ?_
     refine RH.one 10 kr_ ?_
     refine RS.val rfl (Y.load Tryd.underlying30 rfl hm39 (sz_apiDigest _) rfl) dx_ ⟨hS, ?_⟩
     refine RH.takeG [(2, .pointer (some ⟨gl, 0, none⟩)), (3, .pointer (some ⟨ge, 0, none⟩))] 11 (fun _ _ _ h => ⟨h.1, (fun _ _ h => h), h.2⟩) rfl kr_ hS rfl kr_ kr_ (fun wq hq => Y.neq_apiDigest rfl rfl) dx_ ?_
     refine RH.one 12 kr_ ?_
     refine RS.callOr rfl Tryd.func33 rfl rfl rfl (prefuse_any _ _ _) (by simp) (fun ch w10 hP10 => ?_) ?_
     ·
      skip
      obtain ⟨h1, rfl, hx⟩ := hP10
      exact (show Fr.le _ _ ∧ RdG p gl ge w _ _ from ⟨Fr.ok, 10, rdP_4 hn1 hn2 hn3 hq (fun h => (by simpa using h1 : shaD (p.take q) ≠ dd) (Subtype.ext (by rw [h, hdd]))), rfl, (hE.thenExt hS).thenExt hx, ⟨_, (hG.ext hS).ext hx⟩, (hH.ext hS).ext hx⟩)
     rintro v43 w10 hR10
     obtain ⟨h1, rfl, hx10⟩ := hR10
     have hS := hS.thenExt hx10
     refine ⟨hS, ?_⟩
     refine RH.done kr_ ?_
     have hx11 := hS; have hz11 := hx11.size; have hE := hE.thenExt hx11; have hK := hK.ext hx11
     exact ⟨(), Fr.ok, by rw [(by simpa using h1 : shaD (p.take q) = dd), hdd], hx11⟩
    ·
     skip
     refine RS.st rfl (St.strBytes Tryd.underlying9 Tryd.underlying32 Tryd.underlying5 rfl (by rw [bs_size]; omega)) dx_ fun v39 w12 hR12 => ?_
     obtain ⟨hO39, hx12, hf39⟩ := hR12
     rw [bs_toList] at hO39
     obtain ⟨A39, m39, c39, rfl⟩ := hO39.lens
     obtain ⟨hl39, hc39, hcm39⟩ := hO39.by.len
     obtain ⟨a39, rfl, hm39⟩ := hO39.by.mem.1 om_
     have hm39 : Mem w12 a39 (digC dd) := by rw [hdd]; exact hm39
     have hS := hS.thenExt hx12
     try have hO34 := hO34.ext hx12
     refine ⟨hS, ?_⟩
     refine RH.takeG [(2, .pointer (some ⟨gl, 0, none⟩)), (3, .pointer (some ⟨ge, 0, none⟩))] 9 (fun _ _ _ h => ⟨h.1, (fun _ _ h => h), h.2⟩) rfl kr_ hS rfl kr_ kr_ (fun wq hq => Y.toArr Tryd.underlying30 rfl om_) dx_ ?_
     refine RH.two 4 10 kr_ ?_ ?_
     ·
      skip
      refine RS.call rfl (fun _ _ h => by cases h) Tryd.func7 rfl rfl rfl (sum_any _ (p.take q) _ hO34.by (fun _ k hk => hO34.lt k hk) (hK.ext hS) (by rw [List.length_take]; omega)) dx_ fun v35 w13 hR13 => ?_
      obtain ⟨rfl, hx13⟩ := hR13
      have hS := hS.thenExt hx13
      try have hm39 := hm39.ext hx13
      refine ⟨hS, ?_⟩
      refine RH.one 10 kr_ ?_
      refine RS.val rfl (Y.load Tryd.underlying30 rfl hm39 (sz_apiDigest _) rfl) dx_ ⟨hS, ?_⟩
      refine RH.takeG [(2, .pointer (some ⟨gl, 0, none⟩)), (3, .pointer (some ⟨ge, 0, none⟩))] 11 (fun _ _ _ h => ⟨h.1, (fun _ _ h => h), h.2⟩) rfl kr_ hS rfl kr_ kr_ (fun wq hq => Y.neq_apiDigest rfl rfl) dx_ ?_
      refine RH.one 12 kr_ ?_
      refine RS.callOr rfl Tryd.func33 rfl rfl rfl (prefuse_any _ _ _) (by simp) (fun ch w14 hP14 => ?_) ?_
      ·
       skip
       obtain ⟨h1, rfl, hx⟩ := hP14
       exact (show Fr.le _ _ ∧ RdG p gl ge w _ _ from ⟨Fr.ok, 10, rdP_4 hn1 hn2 hn3 hq (fun h => (by simpa using h1 : shaD (p.take q) ≠ dd) (Subtype.ext (by rw [h, hdd]))), rfl, (hE.thenExt hS).thenExt hx, ⟨_, (hG.ext hS).ext hx⟩, (hH.ext hS).ext hx⟩)
      rintro v43 w14 hR14
      obtain ⟨h1, rfl, hx14⟩ := hR14
      have hS := hS.thenExt hx14
      refine ⟨hS, ?_⟩
      refine RH.done kr_ ?_
      have hx15 := hS; have hz15 := hx15.size; have hE := hE.thenExt hx15; have hK := hK.ext hx15
      exact ⟨(), Fr.ok, by rw [(by simpa using h1 : shaD (p.take q) = dd), hdd], hx15⟩
     ·
      skip
      refine RS.val rfl (Y.load Tryd.underlying30 rfl hm39 (sz_apiDigest _) rfl) dx_ ⟨hS, ?_⟩
      refine RH.one 4 kr_ ?_
      refine RS.call rfl (fun _ _ h => by cases h) Tryd.func7 rfl rfl rfl (sum_any _ (p.take q) _ hO34.by (fun _ k hk => hO34.lt k hk) (hK.ext hS) (by rw [List.length_take]; omega)) dx_ fun v35 w16 hR16 => ?_
      obtain ⟨rfl, hx16⟩ := hR16
      have hS := hS.thenExt hx16
      try have hm39 := hm39.ext hx16
      refine ⟨hS, ?_⟩
      refine RH.takeG [(2, .pointer (some ⟨gl, 0, none⟩)), (3, .pointer (some ⟨ge, 0, none⟩))] 11 (fun _ _ _ h => ⟨h.1, (fun _ _ h => h), h.2⟩) rfl kr_ hS rfl kr_ kr_ (fun wq hq => Y.neq_apiDigest rfl rfl) dx_ ?_
      refine RH.one 12 kr_ ?_
      refine RS.callOr rfl Tryd.func33 rfl rfl rfl (prefuse_any _ _ _) (by simp) (fun ch w17 hP17 => ?_) ?_
      ·
       skip
       obtain ⟨h1, rfl, hx⟩ := hP17
       exact (show Fr.le _ _ ∧ RdG p gl ge w _ _ from ⟨Fr.ok, 10, rdP_4 hn1 hn2 hn3 hq (fun h => (by simpa using h1 : shaD (p.take q) ≠ dd) (Subtype.ext (by rw [h, hdd]))), rfl, (hE.thenExt hS).thenExt hx, ⟨_, (hG.ext hS).ext hx⟩, (hH.ext hS).ext hx⟩)
      rintro v43 w17 hR17
      obtain ⟨h1, rfl, hx17⟩ := hR17
      have hS := hS.thenExt hx17
      refine ⟨hS, ?_⟩
      refine RH.done kr_ ?_
      have hx18 := hS; have hz18 := hx18.size; have hE := hE.thenExt hx18; have hK := hK.ext hx18
      exact ⟨(), Fr.ok, by rw [(by simpa using h1 : shaD (p.take q) = dd), hdd], hx18⟩
   ·
    skip
    refine RS.st rfl (St.strBytes Tryd.underlying9 Tryd.underlying32 Tryd.underlying5 rfl (by rw [bs_size]; omega)) dx_ fun v39 w19 hR19 => ?_
    obtain ⟨hO39, hx19, hf39⟩ := hR19
    rw [bs_toList] at hO39
    obtain ⟨A39, m39, c39, rfl⟩ := hO39.lens
    obtain ⟨hl39, hc39, hcm39⟩ := hO39.by.len
    obtain ⟨a39, rfl, hm39⟩ := hO39.by.mem.1 om_
    have hm39 : Mem w19 a39 (digC dd) := by rw [hdd]; exact hm39
    have hS := hS.thenExt hx19
    try have hO34 := hO34.ext hx19
    refine ⟨hS, ?_⟩
    refine RH.takeG [(2, .pointer (some ⟨gl, 0, none⟩)), (3, .pointer (some ⟨ge, 0, none⟩))] 9 (fun _ _ _ h => ⟨h.1, (fun _ _ h => h), h.2⟩) rfl kr_ hS rfl kr_ kr_ (fun wq hq => Y.toArr Tryd.underlying30 rfl om_) dx_ ?_
    refine RH.two 3 10 kr_ ?_ ?_
    ·
     skip
     refine RS.st rfl (St.strBytes Tryd.underlying9 Tryd.underlying32 Tryd.underlying5 rfl (by rw [bs_size]; rw [List.length_take]; omega)) dx_ fun v34 w20 hR20 => ?_
     obtain ⟨hO34, hx20, hf34⟩ := hR20
     rw [bs_toList] at hO34
     have hS := hS.thenExt hx20
     try have hm39 := hm39.ext hx20
     refine ⟨hS, ?_⟩
     refine RH.two 4 10 kr_ ?_ ?_
     ·
      skip
      refine RS.call rfl (fun _ _ h => by cases h) Tryd.func7 rfl rfl rfl (sum_any _ (p.take q) _ hO34.by (fun _ k hk => hO34.lt k hk) (hK.ext hS) (by rw [List.length_take]; omega)) dx_ fun v35 w21 hR21 => ?_
      obtain ⟨rfl, hx21⟩ := hR21
      have hS := hS.thenExt hx21
      try have hm39 := hm39.ext hx21
      refine ⟨hS, ?_⟩
      refine RH.one 10 kr_ ?_
      refine RS.val rfl (Y.load Tryd.underlying30 rfl hm39 (sz_apiDigest _) rfl) dx_ ⟨hS, ?_⟩
      refine RH.takeG [(2, .pointer (some ⟨gl, 0, none⟩)), (3, .pointer (some ⟨ge, 0, none⟩))] 11 (fun _ _ _ h => ⟨h.1, (fun _ _ h => h), h.2⟩) rfl kr_ hS rfl kr_ kr_ (fun wq hq => Y.neq_apiDigest rfl rfl) dx_ ?_
      refine RH.one 12 kr_ ?_
      refine RS.callOr rfl Tryd.func33 rfl rfl rfl (prefuse_any _ _ _) (by simp) (fun ch w22 hP22 => ?_) ?_
      ·
       skip
       obtain ⟨h1, rfl, hx⟩ := hP22
       exact (show Fr.le _ _ ∧ RdG p gl ge w _ _ from ⟨Fr.ok, 10, rdP_4 hn1 hn2 hn3 hq (fun h => (by simpa using h1 : shaD (p.take q) ≠ dd) (Subtype.ext (by rw [h, hdd]))), rfl, (hE.thenExt hS).thenExt hx, ⟨_, (hG.ext hS).ext hx⟩, (hH.ext hS).ext hx⟩)
      rintro v43 w22 hR22
      obtain ⟨h1, rfl, hx22⟩ := hR22
      have hS := hS.thenExt hx22
      refine ⟨hS, ?_⟩
      refine RH.done kr_ ?_
      have hx23 := hS; have hz23 := hx23.size; have hE := hE.thenExt hx23; have hK := hK.ext hx23
      exact ⟨(), Fr.ok, by rw [(by simpa using h1 : shaD (p.take q) = dd), hdd], hx23⟩
     ·
      skip
      refine RS.val rfl (Y.load Tryd.underlying30 rfl hm39 (sz_apiDigest _) rfl) dx_ ⟨hS, ?_⟩
      refine RH.one 4 kr_ ?_
      refine RS.call rfl (fun _ _ h => by cases h) Tryd.func7 rfl rfl rfl (sum_any _ (p.take q) _ hO34.by (fun _ k hk => hO34.lt k hk) (hK.ext hS) (by rw [List.length_take]; omega)) dx_ fun v35 w24 hR24 => ?_
      obtain ⟨rfl, hx24⟩ := hR24
      have hS := hS.thenExt hx24
      try have hm39 := hm39.ext hx24
      refine ⟨hS, ?_⟩
      refine RH.takeG [(2, .pointer (some ⟨gl, 0, none⟩)), (3, .pointer (some ⟨ge, 0, none⟩))] 11 (fun _ _ _ h => ⟨h.1, (fun _ _ h => h), h.2⟩) rfl kr_ hS rfl kr_ kr_ (fun wq hq => Y.neq_apiDigest rfl rfl) dx_ ?_
      refine RH.one 12 kr_ ?_
      refine RS.callOr rfl Tryd.func33 rfl rfl rfl (prefuse_any _ _ _) (by simp) (fun ch w25 hP25 => ?_) ?_
      ·
       skip
       obtain ⟨h1, rfl, hx⟩ := hP25
       exact (show Fr.le _ _ ∧ RdG p gl ge w _ _ from ⟨Fr.ok, 10, rdP_4 hn1 hn2 hn3 hq (fun h => (by simpa using h1 : shaD (p.take q) ≠ dd) (Subtype.ext (by rw [h, hdd]))), rfl, (hE.thenExt hS).thenExt hx, ⟨_, (hG.ext hS).ext hx⟩, (hH.ext hS).ext hx⟩)
      rintro v43 w25 hR25
      obtain ⟨h1, rfl, hx25⟩ := hR25
      have hS := hS.thenExt hx25
      refine ⟨hS, ?_⟩
      refine RH.done kr_ ?_
      have hx26 := hS; have hz26 := hx26.size; have hE := hE.thenExt hx26; have hK := hK.ext hx26
      exact ⟨(), Fr.ok, by rw [(by simpa using h1 : shaD (p.take q) = dd), hdd], hx26⟩
    ·
     skip
     refine RS.val rfl (Y.load Tryd.underlying30 rfl hm39 (sz_apiDigest _) rfl) dx_ ⟨hS, ?_⟩
     refine RH.one 3 kr_ ?_
     refine RS.st rfl (St.strBytes Tryd.underlying9 Tryd.underlying32 Tryd.underlying5 rfl (by rw [bs_size]; rw [List.length_take]; omega)) dx_ fun v34 w27 hR27 => ?_
     obtain ⟨hO34, hx27, hf34⟩ := hR27
     rw [bs_toList] at hO34
     have hS := hS.thenExt hx27
     try have hm39 := hm39.ext hx27
     refine ⟨hS, ?_⟩
     refine RH.one 4 kr_ ?_
     refine RS.call rfl (fun _ _ h => by cases h) Tryd.func7 rfl rfl rfl (sum_any _ (p.take q) _ hO34.by (fun _ k hk => hO34.lt k hk) (hK.ext hS) (by rw [List.length_take]; omega)) dx_ fun v35 w28 hR28 => ?_
     obtain ⟨rfl, hx28⟩ := hR28
     have hS := hS.thenExt hx28
     try have hm39 := hm39.ext hx28
     refine ⟨hS, ?_⟩
     refine RH.takeG [(2, .pointer (some ⟨gl, 0, none⟩)), (3, .pointer (some ⟨ge, 0, none⟩))] 11 (fun _ _ _ h => ⟨h.1, (fun _ _ h => h), h.2⟩) rfl kr_ hS rfl kr_ kr_ (fun wq hq => Y.neq_apiDigest rfl rfl) dx_ ?_
     refine RH.one 12 kr_ ?_
     refine RS.callOr rfl Tryd.func33 rfl rfl rfl (prefuse_any _ _ _) (by simp) (fun ch w29 hP29 => ?_) ?_
     ·
      skip
      obtain ⟨h1, rfl, hx⟩ := hP29
      exact (show Fr.le _ _ ∧ RdG p gl ge w _ _ from ⟨Fr.ok, 10, rdP_4 hn1 hn2 hn3 hq (fun h => (by simpa using h1 : shaD (p.take q) ≠ dd) (Subtype.ext (by rw [h, hdd]))), rfl, (hE.thenExt hS).thenExt hx, ⟨_, (hG.ext hS).ext hx⟩, (hH.ext hS).ext hx⟩)
     rintro v43 w29 hR29
     obtain ⟨h1, rfl, hx29⟩ := hR29
     have hS := hS.thenExt hx29
     refine ⟨hS, ?_⟩
     refine RH.done kr_ ?_
     have hx30 := hS; have hz30 := hx30.size; have hE := hE.thenExt hx30; have hK := hK.ext hx30
     exact ⟨(), Fr.ok, by rw [(by simpa using h1 : shaD (p.take q) = dd), hdd], hx30⟩
  rintro u w31 hj31
  obtain ⟨hsum, hx31⟩ := hj31
  have hz31 := hx31.size
  have hE := hE.thenExt hx31
  have hK := hK.ext hx31
  have hG := hG.ext hx31
  have hH := hH.ext hx31
  have hrd := rdP_5 hn1 hn2 hn3 hq hsum
  refine CW.sr fun K4 hK4 => ?_
  refine WL.val (Y.move rfl) dx_ ?_
  refine WL.val (Y.move rfl) dx_ ?_
  refine WL.val (Y.strHead (j := q) Tryd.underlying9 rfl rfl om_ om_) dx_ ?_
  refine WL.st (St.strBytes Tryd.underlying9 Tryd.underlying32 Tryd.underlying5 rfl (by rw [bs_size]; omega)) dx_ fun v47 w32 hR32 => ?_
  obtain ⟨hO47, hx32, hf47⟩ := hR32
  rw [bs_toList] at hO47
  have hz32 := hx32.size
  have hE := hE.thenExt hx32
  have hK := hK.ext hx32
  have hG := hG.ext hx32
  have hH := hH.ext hx32
  obtain ⟨A47, m47, c47, rfl⟩ := hO47.lens
  have hbl := hO47.lt
  refine WL.val (Y.build rfl (build_preader _ _ _ _)) dx_ ?_
  refine as_packreader rfl (by simp) dx_ fun g5 w33 hx33 hg5 hB5 => ?_
  have hlt5 := hB5.lt; have hz33 := hx33.size
  have hM5 := hB5.mem; have hz33 := hx33.size; have hE := hE.thenExt hx33; have hK := hK.ext hx33
  refine WL.nil (hK4 _ _ ?_); try clear hK4
  refine CW.sr fun K5 hK5 => ?_
  refine WL.callOr Tryd.func34 rfl rfl rfl (pknum_any g5 _ (p.take q) 3 _ hB5 (hO47.ext hx33).by (fun _ k hk => by have := hbl k hk; omega) om_) (by simp) (fun ch w34 hP34 => ?_) ?_
  ·
   skip
   obtain ⟨e, he, rfl, hc⟩ := hP34
   exact (show Fr.le _ _ ∧ RdG p gl ge w _ _ from ⟨Fr.ok, e, by rw [hrd]; exact rbody_1 he, rfl, hE.stepO hc (fun k h => .inr (by have h : k = g5 := h; omega)), ⟨_, (hG.ext hx33).chg hc (fun h => by have h : _ = g5 := h; omega)⟩, (hH.ext hx33).chg hc (fun h => by have h : _ = g5 := h; omega)⟩)
  rintro v49 w34 hR34
  obtain ⟨n, a1, hgn, rfl, hc34, hB5⟩ := hR34
  have hG := hG.ext hx33
  have hH := hH.ext hx33
  have hE := hE.stepO hc34 (fun k h => .inr (by have h : k = g5 := h; omega))
  have hz34 := hc34.size
  have hK := hK.chg hc34 (fun h => by have h : 0 = g5 := h; omega)
  have hG := hG.chg hc34 (fun h => by have h : gl = g5 := h; omega)
  have hH := hH.chg hc34 (fun h => by have h : ge = g5 := h; omega)
  have hbg : (p.take q) ≠ [] → ∀ k, (Value.slice A47 m47 c47).ownBlock = some k → k ≠ g5 := fun _ k hk => by have := hbl k hk; omega
  have hb := (hO47.ext hx33).by.chg hc34 hbg
  have hla := gnum_len hgn om_
  refine WL.val (Y.assign rfl) dx_ ?_
  refine WL.nil (hK5 _ _ ?_); try clear hK5
  refine CW.sr fun K6 hK6 => ?_
  refine WL.val (Y.move rfl) dx_ ?_
  refine WL.val (Y.gtr rfl rfl) dx_ ?_
  refine WL.callOr Tryd.func33 rfl rfl rfl (prefuse_any _ _ _) (by simp) (fun ch w35 hP35 => ?_) ?_
  ·
   skip
   obtain ⟨h1, rfl, hx⟩ := hP35
   exact (show Fr.le _ _ ∧ RdG p gl ge w _ _ from ⟨Fr.ok, 4, by rw [hrd]; exact rbody_2 hgn (by have := of_decide_eq_true h1; omega), rfl, hE.thenExt hx, ⟨_, hG.ext hx⟩, hH.ext hx⟩)
  rintro v52 w35 hR35
  obtain ⟨h1, rfl, hx35⟩ := hR35
  have hz35 := hx35.size
  have hE := hE.thenExt hx35
  have hK := hK.ext hx35
  have hG := hG.ext hx35
  have hH := hH.ext hx35
  have hB5 := hB5.ext hx35
  have hb := hb.ext hx35
  have hn5 : ¬ 500 < n := by have := of_decide_eq_false h1; omega
  have hblo : ∀ k, (Value.slice A47 m47 c47).ownBlock = some k → w.heap.size ≤ k := fun k hk => by have := hf47 k hk; have := hE.size; omega
  obtain ⟨bv, hbv⟩ : ∃ bv, bv = Value.slice A47 m47 c47 := ⟨_, rfl⟩
  rw [← hbv] at hB5 hb hbl hbg hblo
  have hbW : ∀ k, bv.ownBlock = some k → k < w35.heap.size := fun k hk => by have := hbl k hk; omega
  have hg5W : g5 < w35.heap.size := by omega
  obtain ⟨W, hW⟩ : ∃ W, W = w35.heap.size := ⟨_, rfl⟩
  rw [← hW] at hbW hg5W
  have hwW : w.heap.size ≤ W := by have := hE.size; omega
  refine WL.nil (hK6 _ _ ?_); try clear hK6
  refine CW.sr fun K7 hK7 => ?_
  refine WL.val (Y.assign rfl) dx_ ?_
  refine WL.nil (hK7 _ _ ?_); try clear hK7
  refine CW.sr fun K8 hK8 => ?_
  refine WL.val (Y.assign rfl) dx_ ?_
  refine WL.val (Y.assign rfl) dx_ ?_
  refine WL.nil (hK8 _ _ ?_); try clear hK8
  refine CW.seq fun K9 hK9 => ?_
  refine CW.sr fun K10 hK10 => ?_
  refine WL.val (Y.move rfl) dx_ ?_
  refine WL.val (Y.move rfl) dx_ ?_
  refine WL.nil (hK10 _ _ ?_); try clear hK10
  refine CW.block ?_
  refine CW.loop (X := RdI) (fun x => [(2, .pointer (some ⟨gl, 0, none⟩)), (3, .pointer (some ⟨ge, 0, none⟩)), (4, .int .i64 (q : Int)), (5, .pointer (some ⟨g5, 0, none⟩)), (6, .int .i64 (n : Int)), (7, x.uv), (8, .string (bs x.ah)), (9, .int .i64 (x.dp : Int)), (53, .int .i64 (n : Int)), (54, .int .i64 (x.i : Int))]) (fun x w0 => RdAt w0 W gl ge g5 bv (p.take q) n a1 x ∧ Mem w0 ⟨0, 0, none⟩ (wds keysL) ∧ Chg (fun k => k = gl ∨ k = ge) w w0) (fun x => n - x.i) ⟨0, [], [], [], 0, a1, .slice none 0 0, .slice none 0 0⟩ Fr.ok ⟨⟨Nat.zero_le _, rfl, hB5, (by show a1 ≤ (p.take q).length; omega), Own.nil, fun k h => by simp [Value.ownBlock] at h, hG, Own.nil, fun k h => by simp [Value.ownBlock] at h, hH, rfl, rfl, Nat.zero_le _, Nat.zero_le _, hb, by omega⟩, hK, hE⟩ ?_
  intro x w36 hl36
  clear hK hE hB5 hG hH hb hO47
  obtain ⟨hA, hK, hE⟩ := hl36
  obtain ⟨i, ids, l, ah, dp, at_, uv, lv⟩ := x
  obtain ⟨hle, hrun, hB5, hat, hI, hiw, hG, hL, hlw, hH, hni, hnl, hal, hdp, hb, hwz⟩ := hA
  dsimp only at hle hrun hB5 hat hI hiw hG hL hlw hH hni hnl hal hdp ⊢
  have hIlt := hI.lt
  have hLlt := hL.lt
  refine CW.sr fun K11 hK11 => ?_
  refine WL.val (Y.lss rfl rfl) dx_ ?_
  refine WL.nil (hK11 _ _ ?_); try clear hK11
  refine CW.seq fun K12 hK12 => ?_
  (first | refine cd_ rfl ?_ ?_ | refine ce_ rfl ?_ ?_ | refine cn_ rfl ?_ ?_ | refine cb_ rfl ?_ ?_) <;> intro ht13
  ·
   -- then
   refine CW.skip ?_
   refine hK12 _ _ ?_; try clear hK12
   refine CW.seq fun K14 hK14 => ?_
   refine CW.block ?_
   refine CW.sr fun K15 hK15 => ?_
   refine WL.alloc (hid) (hzd) rfl dx_ fun g10 w37 hx37 hg10 hB10 => ?_
   have hlt10 := hB10.lt; have hz37 := hx37.size
   have hM10 := hB10.mem; have hz37 := hx37.size; have hE := hE.thenExt hx37; have hK := hK.ext hx37; have hB5 := hB5.ext hx37
   refine WL.nil (hK15 _ _ ?_); try clear hK15
   refine CW.sr fun K16 hK16 => ?_
   refine WL.val (Y.move rfl) dx_ ?_
   refine WL.val (Y.move rfl) dx_ ?_
   refine WL.val (Y.move rfl) dx_ ?_
   refine WL.callOr Tryd.func35 rfl rfl rfl (pkobj_any g5 bv (p.take q) at_ uv ids ah dp _ hB5 (hb.ext hx37) hbg hat (hI.ext hx37) (fun k hk => by have := (hiw k hk).1; omega) hal hdp om_ hK) (by simp) (fun ch w38 hP38 => ?_) ?_
   ·
    skip
    obtain ⟨e, he, rfl, hc⟩ := hP38
    exact (show Fr.le _ _ ∧ RdG p gl ge w _ _ from ⟨Fr.ok, e, by rw [hrd]; exact rbody_3 hgn hn5 (by rw [← hrun, show n - i = (n - (i + 1)) + 1 from by omega]; exact robjs_e he), rfl, hE.stepO hc (fun k h => .inr (by have h : k = g5 := h; omega)), ⟨_, (hG.ext hx37).chg hc (fun h => by have h : _ = g5 := h; omega)⟩, (hH.ext hx37).chg hc (fun h => by have h : _ = g5 := h; omega)⟩)
   rintro v60 w38 hR38
   obtain ⟨d, s, dp1, a2, hro, rfl, hc38, hB5⟩ := hR38
   have hG := hG.ext hx37
   have hH := hH.ext hx37
   have hI := hI.ext hx37
   have hL := hL.ext hx37
   have hb := hb.ext hx37
   have hE := hE.stepO hc38 (fun k h => .inr (by have h : k = g5 := h; omega))
   have hz38 := hc38.size
   have hK := hK.chg hc38 (fun h => by have h : 0 = g5 := h; omega)
   have hG := hG.chg hc38 (fun h => by have h : gl = g5 := h; omega)
   have hH := hH.chg hc38 (fun h => by have h : ge = g5 := h; omega)
   have hB10 := hB10.chg hc38 (fun h => by have h : g10 = g5 := h; omega)
   have hI := hI.chg hc38 (fun k hk h => by have h : k = g5 := h; have := hiw k hk; omega)
   have hL := hL.chg hc38 (fun k hk h => by have h : k = g5 := h; have := hlw k hk; omega)
   have hb := hb.chg hc38 hbg
   have hrl := robj_len hro hat om_
   refine WL.val (Y.move rfl) dx_ ?_
   refine WL.val (Y.extract rfl rfl) dx_ ?_
   refine WL.val (Y.extract rfl rfl) dx_ ?_
   refine WL.val (Y.extract rfl rfl) dx_ ?_
   refine WL.store (g := g10) (pre := []) (old := digC Dig.zero) (post := []) (new := digC d) rfl rfl rfl rfl (sz_apiDigest _) (by simpa using hB10) ln_ (one_digC) (fun w39 hc39 hB39_ => ?_)
   have hz39 := hc39.size; have hE := hE.stepO hc39 (fun k h => (by show (k = gl ∨ k = ge) ∨ _; omega)); have hK := hK.chg hc39 (fun h => by change 0 = _ at h; omega); have hB5 := hB5.chg hc39 no_
   have hB10 : Blk w39 g10 30 (digC d) := by simpa using hB39_
   have hz39 := hc39.size
   have hG := hG.chg hc39 (fun h => by have h : gl = g10 := h; omega)
   have hH := hH.chg hc39 (fun h => by have h : ge = g10 := h; omega)
   have hI := hI.chg hc39 (fun k hk h => by have h : k = g10 := h; have := hIlt k hk; omega)
   have hL := hL.chg hc39 (fun k hk h => by have h : k = g10 := h; have := hLlt k hk; omega)
   have hb := hb.chg hc39 (fun _ k hk h => by have h : k = g10 := h; have := hbW k hk; omega)
   refine WL.val (Y.assign rfl) dx_ ?_
   refine WL.val (Y.assign rfl) dx_ ?_
   refine WL.nil (hK16 _ _ ?_); try clear hK16
   refine CW.sr fun K17 hK17 => ?_
   refine WL.val (Y.move rfl) dx_ ?_
   refine WL.val (Y.load Tryd.underlying30 rfl hB10.mem (sz_apiDigest _) rfl) dx_ ?_
   refine WL.st (St.buildSlice rfl (bs1_dig _)) dx_ fun v66 w40 hR40 => ?_
   obtain ⟨g66, rfl, hg66, hB66, hx40⟩ := hR40
   have hz40 := hx40.size
   have hE := hE.thenExt hx40
   have hK := hK.ext hx40
   have hG := hG.ext hx40
   have hH := hH.ext hx40
   have hB5 := hB5.ext hx40
   have hB10 := hB10.ext hx40
   have hI := hI.ext hx40
   have hL := hL.ext hx40
   have hb := hb.ext hx40
   have hIlt2 := hI.lt
   have hLlt2 := hL.lt
   refine WL.st (St.append Tryd.underlying23 Tryd.underlying23 ai_dig rfl rfl hI (Src.one hB66 (digC_length _)) one_digC (by rw [flat_length digC_length]; omega)) dx_ fun v67 w41 hR41 => ?_
   obtain ⟨hI, hc41, hf41⟩ := hR41
   have hz41 := hc41.size
   have hE := hE.stepO hc41 (fun k h => .inr (by have := (hiw k h).1; omega))
   have hK := hK.chg hc41 (fun h => by have h1 : W ≤ 0 := (hiw _ h).1; omega)
   have hG := hG.chg hc41 (fun h => by have h1 : W ≤ gl := (hiw _ h).1; omega)
   have hH := hH.chg hc41 (fun h => by have h1 : W ≤ ge := (hiw _ h).1; omega)
   have hB5 := hB5.chg hc41 (fun h => by have h1 : W ≤ g5 := (hiw _ h).1; omega)
   have hL := hL.chg hc41 (fun k hk h => (hiw k h).2 hk)
   have hb := hb.chg hc41 (fun _ k hk h => by have := (hiw k h).1; have := hbW k hk; omega)
   have hiw2 : ∀ k, v67.ownBlock = some k → W ≤ k ∧ lv.ownBlock ≠ some k := by
    rcases hf41 with h | h
    ·
     intro k hk; rw [h] at hk; exact hiw k hk
    ·
     intro k hk; have := h k hk; exact ⟨by omega, fun hv => by have := hLlt2 k hv; omega⟩
   have hIlt3 := hI.lt
   refine WL.val (Y.assign rfl) dx_ ?_
   refine WL.nil (hK17 _ _ ?_); try clear hK17
   refine CW.region ?_
   refine WL.val (Y.load1 Tryd.underlying22 rfl hG.mem.cell0 rfl) dx_ ?_
   refine WL.val (Y.move rfl) dx_ ?_
   refine WL.st (St.buildSlice rfl (bs1_str _)) dx_ fun v70 w42 hR42 => ?_
   obtain ⟨g70, rfl, hg70, hB70, hx42⟩ := hR42
   have hz42 := hx42.size
   have hE := hE.thenExt hx42
   have hK := hK.ext hx42
   have hG := hG.ext hx42
   have hH := hH.ext hx42
   have hB5 := hB5.ext hx42
   have hI := hI.ext hx42
   have hL := hL.ext hx42
   have hb := hb.ext hx42
   refine WL.st (St.append Tryd.underlying22 Tryd.underlying22 ai_str rfl rfl hL (Src.one hB70 rfl) (one1 rfl) (by rw [flat_length strC_length]; omega)) dx_ fun v71 w43 hR43 => ?_
   obtain ⟨hL, hc43, hf43⟩ := hR43
   have hz43 := hc43.size
   have hE := hE.stepO hc43 (fun k h => .inr (by have := hlw k h; omega))
   have hK := hK.chg hc43 (fun h => by have h1 : W ≤ 0 := hlw _ h; omega)
   have hG := hG.chg hc43 (fun h => by have h1 : W ≤ gl := hlw _ h; omega)
   have hH := hH.chg hc43 (fun h => by have h1 : W ≤ ge := hlw _ h; omega)
   have hB5 := hB5.chg hc43 (fun h => by have h1 : W ≤ g5 := hlw _ h; omega)
   have hI := hI.chg hc43 (fun k hk h => (hiw2 k hk).2 h)
   have hb := hb.chg hc43 (fun _ k hk h => by have := hlw k h; have := hbW k hk; omega)
   have hiw3 : ∀ k, v67.ownBlock = some k → W ≤ k ∧ v71.ownBlock ≠ some k := by
    rcases hf43 with h | h
    ·
     intro k hk; rw [h]; exact hiw2 k hk
    ·
     intro k hk; exact ⟨(hiw2 k hk).1, fun hv => by have := h k hv; have := hIlt3 k hk; omega⟩
   have hlw3 : ∀ k, v71.ownBlock = some k → W ≤ k := by
    rcases hf43 with h | h
    ·
     intro k hk; rw [h] at hk; exact hlw k hk
    ·
     intro k hk; have := h k hk; omega
   obtain ⟨A71, m71, c71, rfl⟩ := hL.lens
   refine WL.store (g := gl) (pre := []) (old := [lv]) (post := []) (new := [.slice A71 m71 c71]) rfl rfl rfl rfl kr_ (by simpa using hG) ln_ (one1 rfl) (fun w44 hc44 hB44_ => ?_)
   have hz44 := hc44.size; have hE := hE.stepO hc44 (fun k h => (by show (k = gl ∨ k = ge) ∨ _; omega)); have hK := hK.chg hc44 (fun h => by change 0 = _ at h; omega); have hB5 := hB5.chg hc44 no_; have hB10 := hB10
   have hG : Blk w44 gl TSs [.slice A71 m71 c71] := by simpa using hB44_
   have hz44 := hc44.size
   have hH := hH.chg hc44 (fun h => by have h : ge = gl := h; omega)
   have hI := hI.chg hc44 (fun k hk h => by have h : k = gl := h; have := (hiw3 k hk).1; omega)
   have hL := hL.chg hc44 (fun k hk h => by have h : k = gl := h; have := hlw3 k hk; omega)
   have hb := hb.chg hc44 (fun _ k hk h => by have h : k = gl := h; have := hblo k hk; omega)
   refine WL.nil (hK14 _ _ ?_); try clear hK14
   refine CW.region ?_
   refine WL.val (Y.add rfl rfl o2_) dx_ ?_
   refine WL.val (Y.move rfl) dx_ ?_
   refine WL.nil ?_
   refine ⟨⟨i + 1, ids ++ [d], l ++ [s], s, dp1, a2, v67, .slice A71 m71 c71⟩, by show n - (i + 1) < n - i; omega, Fr.ok, ⟨by show i + 1 ≤ n; omega, ?_, hB5, hrl.2.1, by simpa [flatD] using hI, hiw3, hG, by simpa [flatS, strC] using hL, hlw3, hH, by simp [hni], by simp [hnl], by show s.length ≤ _; omega, hrl.2.2.2, hb, by omega⟩, hK, hE⟩
   show robjs _ (n - (i + 1)) _ _ _ _ _ = _
   rw [← robjs_s hro, ← hrun, show n - i = (n - (i + 1)) + 1 from by omega]
  have hin : n - i = 0 := by omega
  have hfin : robjs (p.take q) n [] [] [] 0 a1 = .ok (l, at_) := by rw [← hrun, hin]; rfl
  refine CW.exit ?_
  refine hK9 _ _ ?_; try clear hK9
  refine CW.sr fun K18 hK18 => ?_
  refine WL.val (Y.fieldAddr fo_packreader1 rfl) dx_ ?_
  refine WL.val (Y.load1 Tryd.underlying3 rfl hB5.mem.packreader1 rfl) dx_ ?_
  refine WL.val (Y.move rfl) dx_ ?_
  refine WL.val (Y.neq rfl rfl) dx_ ?_
  refine WL.callOr Tryd.func33 rfl rfl rfl (prefuse_any _ _ _) (by simp) (fun ch w45 hP45 => ?_) ?_
  ·
   skip
   obtain ⟨h1, rfl, hx⟩ := hP45
   exact (show Fr.le _ _ ∧ RdG p gl ge w _ _ from ⟨Fr.ok, 7, by rw [hrd]; exact rbody_4 hgn hn5 hfin (by have := of_decide_eq_true h1; omega), rfl, hE.thenExt hx, ⟨_, hG.ext hx⟩, hH.ext hx⟩)
  rintro v77 w45 hR45
  obtain ⟨h1, rfl, hx45⟩ := hR45
  have hz45 := hx45.size
  have hE := hE.thenExt hx45
  have hK := hK.ext hx45
  have hG := hG.ext hx45
  have hH := hH.ext hx45
  have hB5 := hB5.ext hx45
  have hL := hL.ext hx45
  have hat2 : at_ = (p.take q).length := by have := of_decide_eq_false h1; omega
  obtain ⟨A71, m71, c71, rfl⟩ := hL.lens
  refine WL.nil (hK18 _ _ ?_); try clear hK18
  refine CW.sr fun K19 hK19 => ?_
  refine WL.val (Y.load1 Tryd.underlying22 rfl hG.mem.cell0 rfl) dx_ ?_
  refine WL.store (g := gl) (pre := []) (old := [.slice A71 m71 c71]) (post := []) (new := [.slice A71 m71 c71]) rfl rfl rfl rfl kr_ (by simpa using hG) ln_ (one1 rfl) (fun w46 hc46 hB46_ => ?_)
  have hz46 := hc46.size; have hE := hE.stepO hc46 (fun k h => (by show (k = gl ∨ k = ge) ∨ _; omega)); have hK := hK.chg hc46 (fun h => by change 0 = _ at h; omega); have hB5 := hB5.chg hc46 no_
  have hG : Blk w46 gl TSs [.slice A71 m71 c71] := by simpa using hB46_
  have hz46 := hc46.size
  have hH := hH.chg hc46 (fun h => by have h : ge = gl := h; omega)
  have hL := hL.chg hc46 (fun k hk h => by have h : k = gl := h; have := hlw k hk; omega)
  refine WL.store (g := ge) (pre := []) (old := [.int .i64 0]) (post := []) (new := [.int .i64 0]) rfl rfl rfl rfl kr_ (by simpa using hH) ln_ (one1 rfl) (fun w47 hc47 hB47_ => ?_)
  have hz47 := hc47.size; have hE := hE.stepO hc47 (fun k h => (by show (k = gl ∨ k = ge) ∨ _; omega)); have hK := hK.chg hc47 (fun h => by change 0 = _ at h; omega); have hB5 := hB5.chg hc47 no_
  have hH : Blk w47 ge TEr [.int .i64 0] := by simpa using hB47_
  have hz47 := hc47.size
  have hG := hG.chg hc47 (fun h => by have h : gl = ge := h; omega)
  have hL := hL.chg hc47 (fun k hk h => by have h : k = ge := h; have := hlw k hk; omega)
  refine WL.nil (hK19 _ _ ?_); try clear hK19
  refine CW.ret ?_
  exact ⟨Fr.ok, l, .slice A71 m71 c71, by rw [hrd]; exact rbody_5 hgn hn5 hfin hat2, hG, hL, fun k hk => by have := hlw k hk; omega, hH, hE⟩
 intro e f a4 w4 hr4 hp
 cases e with
 | ret =>
  obtain ⟨hle, l, lv, hd, hG4, hL, hlw, hH4, hx⟩ := hp
  have hr5 := hr4.weaken hle
  show Leaves _ _ _ _ _ _ _
  rw [hr5.defers]
  refine leaves_cons (f := 32) (args := #[.pointer (some ⟨gl, 0, none⟩), .pointer (some ⟨ge, 0, none⟩)]) (by simp) (by simp [go_sem]) ?_
  refine (rcatch_idle _ _ w4).mono ?_
  rintro r u' w5 ⟨rfl, rfl, rfl⟩
  exact ⟨_, rd_res hr5 rfl rfl hG4 hH4, lv, ((Ext.chg hx0).trans hx (fun _ _ h => h)).toExt (fun i hi h => by omega), fun k hk => by have := hlw k hk; omega, .inl ⟨l, hd, rfl, hL⟩⟩
 | normal =>
  obtain ⟨hle, l, lv, hd, hG4, hL, hlw, hH4, hx⟩ := hp
  have hr5 := hr4.weaken hle
  show Leaves _ _ _ _ _ _ _
  rw [hr5.defers]
  refine leaves_cons (f := 32) (args := #[.pointer (some ⟨gl, 0, none⟩), .pointer (some ⟨ge, 0, none⟩)]) (by simp) (by simp [go_sem]) ?_
  refine (rcatch_idle _ _ w4).mono ?_
  rintro r u' w5 ⟨rfl, rfl, rfl⟩
  exact ⟨_, rd_res hr5 rfl rfl hG4 hH4, lv, ((Ext.chg hx0).trans hx (fun _ _ h => h)).toExt (fun i hi h => by omega), fun k hk => by have := hlw k hk; omega, .inl ⟨l, hd, rfl, hL⟩⟩
 | panic ch =>
  obtain ⟨hle, e, hd, rfl, hx, ⟨x, hG4⟩, hH4⟩ := hp
  have hr5 := hr4.weaken hle
  show Leaves _ _ _ _ _ _ _
  rw [hr5.defers]
  refine leaves_cons (f := 32) (args := #[.pointer (some ⟨gl, 0, none⟩), .pointer (some ⟨ge, 0, none⟩)]) (by simp) (by simp [go_sem]) ?_
  refine (rcatch_pan gl ge x _ e [] w4 hG4 hH4 om_).mono ?_
  rintro r u' w5 ⟨rfl, rfl, hcg, hG5, hH5⟩
  show ∃ v, _
  exact ⟨_, rd_res hr5 rfl rfl hG5 hH5, .slice none 0 0, ((Ext.chg (S := fun k => k = gl ∨ k = ge) hx0).trans (hx.trans hcg (fun _ _ h => h)) (fun _ _ h => h)).toExt (fun i hi h => by omega), fun k h => by simp [Value.ownBlock] at h, .inr ⟨e, hd, rfl, rfl⟩⟩
 | exit id => exact hp.elim
 | goto l => exact hp.elim
 | outgrown => exact hp.elim
end Go.Proofs.YtfanmpbapabboaaDoor
