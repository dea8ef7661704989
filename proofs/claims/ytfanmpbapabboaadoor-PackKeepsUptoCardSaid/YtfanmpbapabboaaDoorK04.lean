/- Parts of a proof: what its last text leans on. No condition. -/
import Derived.ScopeJumps
import Derived.Defers
import Derived.Recover
import Derived.Lib.Bytealg
import Derived.Shelf.Small.Strs
import Derived.Shelf.Strings.Search1
import Derived.Test.YtfanmpbapabboaaDoorProg
import Derived.Test.YtfanmpbapabboaaDoorK02
import Derived.Test.YtfanmpbapabboaaDoorK03
set_option linter.unusedSimpArgs false
set_option linter.unusedVariables false
/- Calls that may panic; results that lie in cells; stores and loads in held regions; slices of slices. No condition; no program. -/
namespace Go.Fw
open Go.RowKit
section
variable {P : Program} {n : NN} {Φ : Exit → Fr → World → Prop} {fr : Fr} {w : World}
theorem WL.callOr {ops : Array Oper} {rest : List Oper} {dst : Option Nat} {f : FuncId} {args : List Operand} {tys : Array TypeId} {ty : TypeId} {pos : String} {aft : Array Edge} {vs : List Value} {fn : Func}
  {R : Value → World → Prop} {S : List PanicEntry → World → Prop}
  (hf : P.funcs[f]? = some fn) (hb : fn.body.isNone = false) (hn : (fn.name == "runtime.NumGoroutine") = false)
  (he : evs fr args = some vs) (hC : Calls P f vs.toArray w (RetOr R S)) (hd : ∀ d, dst = some d → d < n.1)
  (hp : ∀ ch w', S ch w' → Φ (.panic ch) fr w')
  (h : ∀ v w', R v w' → WL P ops n Φ rest (match dst with | some d => (d, v) :: fr | none => fr) w') :
  WL P ops n Φ (⟨dst, .call { callee := .value (.func f), args := args.toArray, argTypes := tys }, ty, pos, aft, none⟩ :: rest) fr w := fun a ha =>
 wpList_plain rfl fun K hK => by
  have hrun : (execOp a.eval ⟨dst, .call { callee := .value (.func f), args := args.toArray, argTypes := tys }, ty, pos, aft, none⟩).run P w = .ok (.enter f vs.toArray) w := by
   have := ha.evs he
   simp [execOp, resolve, invoke, Deferred.ofValue, Act.eval, this, run_callFunc hf hb hn]
  unfold Oper.wp
  rw [hrun]
  refine hC.mono fun e w' hr => ?_
  cases e with
  | returned v =>
   refine hK _ _ (h v w' hr _ ?_)
   cases dst with
   | none => exact ha
   | some d => exact ha.put (hd d rfl) v
  | panicked ch => exact ⟨fr, ha, hp ch w' hr⟩
  | outgrown => exact hr.elim
theorem WL.panicI {ops : Array Oper} {rest : List Oper} {x : Operand} {t : TypeId} {v : Value} {ty : TypeId} {pos : String} {aft : Array Edge} (hx : ev fr x = some (.iface t v)) (h : Φ (.panic [{ v := .iface t v, recovered := false }]) fr w) :
  WL P ops n Φ (⟨none, .panic x, ty, pos, aft, none⟩ :: rest) fr w := fun a ha =>
 wpList_plain rfl fun K hK => by
  have hrun : (execOp a.eval ⟨none, .panic x, ty, pos, aft, none⟩).run P w = .halt (.panic (.iface t v)) w := by
   simp [execOp, ha.ev hx, run_panic_iface]
  unfold Oper.wp
  rw [hrun]
  exact ⟨fr, ha, h⟩
theorem Y.nilCheck {x : Operand} {ty : TypeId} {a : Addr} (hx : ev fr x = some (.pointer (some a))) : Yw P n fr (.nilCheck x) ty w (.pointer (some a)) w := fun b o' ho _ ha => by
 simp [execOp, ho, ha.ev hx]
theorem Y.slice_sl {x lo hi : Operand} {t e ty : TypeId} {a : Addr} {m c k i j : Nat} {ki kj : IntKind} (hT : P.underlying t = some (.slice e)) (hx : ev fr x = some (.slice (some a) m c)) (hlo : ev fr lo = some (.int ki (i : Int))) (hhi : ev fr hi = some (.int kj (j : Int)))
  (hS : (P.info? e).map (·.size) = some k) (h1 : i ≤ j) (h2 : j ≤ c) : Yw P n fr (.slice t x (some lo) (some hi) none) ty w (.slice (some (if c = i then a else a.add (i * k))) (j - i) (c - i)) w := fun b o' ho _ ha => by
 have e1 : (0 : Int) ≤ (i : Int) := by omega
 have e2 : (0 : Int) ≤ (j : Int) := by omega
 simp [execOp, ho, ha.ev hx, ha.ev hlo, ha.ev hhi, Instr.sliceAt, Instr.slice, run_underlying hT, Instr.sliceBounds, Instr.sliceBound, asIntOf, e1, e2, h1, h2, fw_sizeOf hS]
 split <;> rfl
theorem Y.toArr {x : Operand} {t e ty : TypeId} {A : Option Addr} {m c k : Nat} (hT : P.underlying t = some (.array k e)) (hx : ev fr x = some (.slice A m c)) (h : k ≤ m) : Yw P n fr (.sliceToArrayPointer t x) ty w (.pointer A) w := fun b o' ho _ ha => by
 simp [execOp, ho, ha.ev hx, Instr.arrayAt, run_underlying hT, Nat.not_lt.2 h]
variable {ops : Array Oper} {S : World → Prop} {fuel : Nat} {listed : Array Bool}
theorem RS.val {i d : Nat} {o : Op} {ty : TypeId} {pos : String} {aft : Array Edge} {v : Value}
  (hi : ops[i]? = some ⟨some d, o, ty, pos, aft, none⟩) (hy : Yw P n fr o ty w v w) (hd : d < n.1)
  (h : S w ∧ RH P ops S n Φ fuel (listed.setIfInBounds i true) ((d, v) :: fr) w) : RS P ops S n Φ fuel listed i fr w := fun a ha => by
 have hr := hy a ⟨some d, o, ty, pos, aft, none⟩ rfl rfl ha
 unfold wpOp
 rw [hi]
 simp only [Region.wanted, if_true]
 refine .inl ?_
 unfold Oper.wp
 rw [hr]
 exact ⟨h.1, h.2 _ (ha.put hd v)⟩
theorem RS.callOr {i : Nat} {dst : Option Nat} {f : FuncId} {args : List Operand} {tys : Array TypeId} {ty : TypeId} {pos : String} {aft : Array Edge} {vs : List Value} {fn : Func} {R : Value → World → Prop} {T : List PanicEntry → World → Prop}
  (hi : ops[i]? = some ⟨dst, .call { callee := .value (.func f), args := args.toArray, argTypes := tys }, ty, pos, aft, none⟩)
  (hf : P.funcs[f]? = some fn) (hb : fn.body.isNone = false) (hn : (fn.name == "runtime.NumGoroutine") = false)
  (he : evs fr args = some vs) (hC : Calls P f vs.toArray w (RetOr R T)) (hd : ∀ d, dst = some d → d < n.1)
  (hp : ∀ ch w', T ch w' → Φ (.panic ch) fr w')
  (h : ∀ v w', R v w' → S w' ∧ RH P ops S n Φ fuel (listed.setIfInBounds i true) (match dst with | some d => (d, v) :: fr | none => fr) w') : RS P ops S n Φ fuel listed i fr w := fun a ha => by
 have hrun : (execOp a.eval ⟨dst, .call { callee := .value (.func f), args := args.toArray, argTypes := tys }, ty, pos, aft, none⟩).run P w = .ok (.enter f vs.toArray) w := by
  have := ha.evs he
  simp [execOp, resolve, invoke, Deferred.ofValue, Act.eval, this, run_callFunc hf hb hn]
 unfold wpOp
 rw [hi]
 simp only [Region.wanted, if_true]
 refine .inl ?_
 unfold Oper.wp
 rw [hrun]
 refine hC.mono fun e w' hr => ?_
 cases e with
 | returned v =>
  obtain ⟨h1, h2⟩ := h v w' hr
  refine ⟨h1, h2 _ ?_⟩
  cases dst with
  | none => exact ha
  | some d => exact ha.put (hd d rfl) v
 | panicked ch => exact ⟨fr, ha, hp ch w' hr⟩
 | outgrown => exact hr.elim
theorem RS.store {i : Nat} {t e : TypeId} {x y : Operand} {ty : TypeId} {pos : String} {aft : Array Edge} {v : Value} {g : Nat} {pre old post new : List Value} {A : Addr}
  (hi : ops[i]? = some ⟨none, .store t x y, ty, pos, aft, none⟩)
  (hx : ev fr x = some (.pointer (some A))) (hA : A = ⟨g, pre.length, none⟩) (hy : ev fr y = some v) (hv : v.cells = new.toArray) (hS : (P.info? t).map (·.size) = some new.length)
  (hb : Blk w g e (pre ++ old ++ post)) (hl : new.length = old.length) (h1 : ∀ u ∈ new, u.oneCell' = true)
  (h : ∀ w', Chg (· = g) w w' → Blk w' g e (pre ++ new ++ post) → S w' ∧ RH P ops S n Φ fuel (listed.setIfInBounds i true) fr w') : RS P ops S n Φ fuel listed i fr w := fun a ha => by
 obtain ⟨w', hst, hc, hb'⟩ := run_storeCells_blk (P := P) hb hl h1
 have hrun : (execOp a.eval ⟨none, .store t x y, ty, pos, aft, none⟩).run P w = .ok .skip w' := by
  simp [execOp, ha.ev hx, ha.ev hy, Instr.storeAt, Instr.sureAddr, storeVar, fw_sizeOf hS, hv, hA, hst]
 obtain ⟨h1, h2⟩ := h w' hc hb'
 unfold wpOp
 rw [hi]
 simp only [Region.wanted, if_true]
 refine .inl ?_
 unfold Oper.wp
 rw [hrun]
 exact ⟨h1, h2 _ ha⟩
@[reducible] def DoneG (D : Fr → World → Prop) (S : List PanicEntry → World → Prop) : Exit → Fr → World → Prop
 | .normal, fr, w => D fr w
 | .ret, fr, w => D fr w
 | .panic ch, _, w => S ch w
 | _, _, _ => False
theorem calls_of_CWG {f : FuncId} {fn : Func} {c : Code} {args : List Value} {R : Value → World → Prop} {S : List PanicEntry → World → Prop} (m : Nat) (D : Fr → World → Prop) (fr0 : Fr)
  (hf : P.funcs[f]? = some fn) (hb : fn.body = some c) (hm : fn.ntmps = m) (hr : ∀ a fr w, Rep (m, [], none) a fr → D fr w → ∃ v, (results fn a.tmps).run P w = .ok v w ∧ R v w)
  (hsz : args.length ≤ m) (hargs : ∀ t v, fr0.get t = some v → args[t]? = some v)
  (h : CW P c (m, [], none) (DoneG D S) fr0 w) : Calls P f args.toArray w (RetOr R S) := by
 refine calls_of_wp hf hb ?_
 have hrep : Rep (m, [], none) { tmps := args.toArray ++ Array.replicate (fn.ntmps - args.toArray.size) undef, defers := [] } fr0 := by
  refine ⟨by simp [hm]; omega, rfl, fun t v hv => ?_⟩
  have h1 := hargs t v hv
  have hlt : t < args.length := (List.getElem?_eq_some_iff.1 h1).1
  simpa [Array.getElem?_append, hlt] using (List.getElem?_eq_some_iff.1 h1).2
 refine wp_mono ((CW.plain rfl).1 h _ hrep) ?_
 rintro e a' w' ⟨fr', hf', hp⟩
 cases e with
 | normal => obtain ⟨v, hv, hR⟩ := hr _ _ _ hf' hp; exact ⟨hf'.defers, v, hv, hR⟩
 | ret => obtain ⟨v, hv, hR⟩ := hr _ _ _ hf' hp; exact ⟨hf'.defers, v, hv, hR⟩
 | exit id => exact hp
 | goto l => exact hp
 | panic ch => exact ⟨hf'.defers, hp⟩
 | outgrown => exact hp.elim
@[reducible] def Cell1 (t m : Nat) (R : Value → World → Prop) (fr : Fr) (w : World) : Prop := ∃ a cs, fr.get t = some (.pointer (some a)) ∧ Mem w a cs ∧ cs.length = m ∧ R (.agg cs.toArray) w
theorem res_cell {fn : Func} {a : Act} {t m : Nat} {ty : TypeId} {d : TypeDesc} {R : Value → World → Prop} (hr : fn.results = #[.cell t ty]) (hT : P.underlying ty = some d) (hd : notAgg d = false) (hS : (P.info? ty).map (·.size) = some m)
  {fr : Fr} {w : World} (ha : Rep n a fr) (hD : Cell1 t m R fr w) : ∃ v, (results fn a.tmps).run P w = .ok v w ∧ R v w := by
 obtain ⟨p, cs, hp, hm, hl, hR⟩ := hD
 have h1 := run_loadVarA (P := P) hT hd (by rw [hl]; exact hS) hm
 have e := ha.get t _ hp
 refine ⟨_, ?_, hR⟩
 simp [results, hr, e, asAddr, h1]
theorem calls_of_CWc_or {f : FuncId} {fn : Func} {c : Code} {args : List Value} {R : Value → World → Prop} {S : List PanicEntry → World → Prop} (m t k : Nat) (fr0 : Fr) {ty : TypeId} {d : TypeDesc}
  (hf : P.funcs[f]? = some fn) (hb : fn.body = some c) (hm : fn.ntmps = m) (hr : fn.results = #[.cell t ty]) (hT : P.underlying ty = some d) (hd : notAgg d = false) (hS : (P.info? ty).map (·.size) = some k)
  (hsz : args.length ≤ m) (hargs : ∀ t v, fr0.get t = some v → args[t]? = some v)
  (h : CW P c (m, [], none) (DoneG (Cell1 t k R) S) fr0 w) : Calls P f args.toArray w (RetOr R S) :=
 calls_of_CWG m _ fr0 hf hb hm (fun a fr w ha hD => res_cell hr hT hd hS ha hD) hsz hargs h
theorem calls_of_CWc {f : FuncId} {fn : Func} {c : Code} {args : List Value} {R : Value → World → Prop} (m t k : Nat) (fr0 : Fr) {ty : TypeId} {d : TypeDesc}
  (hf : P.funcs[f]? = some fn) (hb : fn.body = some c) (hm : fn.ntmps = m) (hr : fn.results = #[.cell t ty]) (hT : P.underlying ty = some d) (hd : notAgg d = false) (hS : (P.info? ty).map (·.size) = some k)
  (hsz : args.length ≤ m) (hargs : ∀ t v, fr0.get t = some v → args[t]? = some v)
  (h : CW P c (m, [], none) (DoneG (Cell1 t k R) (fun _ _ => False)) fr0 w) : Calls P f args.toArray w (Ret R) :=
 (calls_of_CWc_or m t k fr0 hf hb hm hr hT hd hS hsz hargs h).mono fun e w' he => by
  cases e with
  | returned v => exact he
  | panicked ch => exact he.elim
  | outgrown => exact he.elim
def By (w : World) (v : Value) (bs : List UInt8) : Prop := ∃ A m c, v = .slice A m c ∧ bs.length = m ∧ m ≤ c ∧ c ≤ maxLen ∧ (0 < m → ∃ a, A = some a ∧ Mem w a (bytesC bs)) ∧ (A = none → m = 0)
theorem By.chg {T : Nat → Prop} {w w' : World} {v : Value} {bs : List UInt8} (h : By w v bs) (hc : Chg T w w') (hs : bs ≠ [] → ∀ g, v.ownBlock = some g → ¬ T g) : By w' v bs := by
 obtain ⟨A, m, c, rfl, hl, hmc, hcm, hA, hn⟩ := h
 refine ⟨A, m, c, rfl, hl, hmc, hcm, fun h0 => ?_, hn⟩
 obtain ⟨a, rfl, hm⟩ := hA h0
 exact ⟨a, rfl, hm.chg hc (hs (by rintro rfl; simp at hl; omega) _ rfl)⟩
theorem By.ext {w w' : World} {v : Value} {bs : List UInt8} (h : By w v bs) (hc : Ext w w') : By w' v bs := h.chg hc fun _ _ _ f => f
theorem Own.by {e : TypeId} {v : Value} {bs : List UInt8} (h : Own w e 1 v (bytesC bs)) : By w v bs := by
 obtain ⟨A, m, c, rfl⟩ := h.lens
 obtain ⟨hm, hn, hl, hmc, hcm⟩ := h.mem A m c rfl
 rw [bytesC_length] at hl
 exact ⟨A, m, c, rfl, by omega, hmc, hcm, hm, hn⟩
end
@[reducible] def jumpF (l : Nat) (J : Fr → World → Prop) (Φ : Exit → Fr → World → Prop) : Exit → Fr → World → Prop
 | .goto l', f, w => l' = l ∧ J f w
 | .normal, f, w => Φ .normal f w
 | .exit id, f, w => Φ (.exit id) f w
 | .ret, f, w => Φ .ret f w
 | .panic ch, f, w => Φ (.panic ch) f w
 | .outgrown, f, w => Φ .outgrown f w
theorem CW.scope {P : Program} {n : NN} {Φ : Exit → Fr → World → Prop} {fr : Fr} {w : World} {c tail : Code} {X : Type} (l : Nat) (g : X → Fr) (W : X → World → Prop) (μ : X → Nat) (hf : findLabel c l = some (.seq .skip tail))
  (T : ∀ x w, W x w → CW P tail n (jumpF l (fun f w => ∃ y, μ y < μ x ∧ Fr.le (g y) f ∧ W y w) Φ) (g x) w)
  (first : (∀ f w x, Fr.le (g x) f → W x w → CW P (.seq (.label l) tail) n (jumpF l (fun f w => ∃ y, Fr.le (g y) f ∧ W y w) Φ) f w) → CW P c n (jumpF l (fun f w => ∃ y, Fr.le (g y) f ∧ W y w) Φ) fr w) (hn0 : n.2.2 = none := by rfl) : CW P (.scope c) n Φ fr w := by
 have hT : ∀ f w x, Fr.le (g x) f → W x w → CW P tail n (jumpF l (fun f w => ∃ y, Fr.le (g y) f ∧ W y w) Φ) f w := fun f w x hl hw =>
  CW.weaken hl (CW.mono (T x w hw) fun e f w hp => by
   cases e with
   | goto l' => obtain ⟨h1, y, _, h2⟩ := hp; exact ⟨h1, y, h2⟩
   | _ => exact hp)
 have hT' : ∀ f w x, Fr.le (g x) f → W x w → CW P (.seq (.label l) tail) n (jumpF l (fun f w => ∃ y, Fr.le (g y) f ∧ W y w) Φ) f w := fun f w x hl hw =>
  CW.seq fun K hK => CW.label (hK _ _ (hT f w x hl hw))
 refine (CW.plain hn0).2 fun a ha => ?_
 intro b k cs
 have hg : gotoIn l (.inScope c :: k) = some (.code (.seq .skip tail) :: .inScope c :: k) := by simp [gotoIn, hf]
 have key : ∀ m x a w, μ x = m → Rep n a (g x) → W x w → ∃ e a' w', lift n Φ e a' w' ∧ Arrives P (lone (b.at a (.code (.seq .skip tail) :: .inScope c :: k)) cs w) b k cs e a' w' := by
  intro m
  induction m using Nat.strongRecOn with
  | _ m ih =>
   intro x a w hn hr hW
   have hs : CW P (.seq .skip tail) n (jumpF l (fun f w => ∃ y, μ y < μ x ∧ Fr.le (g y) f ∧ W y w) Φ) (g x) w := CW.seq fun K hK => CW.skip (hK _ _ (T x w hW))
   obtain ⟨e, a₁, w₁, ⟨f, hf1, hp⟩, harr⟩ := (CW.plain hn0).1 hs a hr b (.inScope c :: k) cs
   cases e with
   | normal => exact ⟨.normal, a₁, w₁, ⟨f, hf1, hp⟩, Steps.trans harr (.one step_inScope)⟩
   | exit id => exact ⟨.exit id, a₁, w₁, ⟨f, hf1, hp⟩, fun k' hk => harr k' (by simp [exitTo, hk])⟩
   | goto l' =>
    obtain ⟨rfl, y, hlt, hl, hW'⟩ := hp
    obtain ⟨e₂, a₂, w₂, hq₂, harr₂⟩ := ih _ (hn ▸ hlt) y a₁ w₁ rfl (hf1.weaken hl) hW'
    exact ⟨e₂, a₂, w₂, hq₂, .of_steps (harr _ hg) harr₂⟩
   | ret => exact ⟨_, a₁, w₁, ⟨f, hf1, hp⟩, harr⟩
   | panic ch => exact ⟨_, a₁, w₁, ⟨f, hf1, hp⟩, harr⟩
   | outgrown => exact ⟨_, a₁, w₁, ⟨f, hf1, hp⟩, harr⟩
 obtain ⟨e, a₁, w₁, ⟨f, hf1, hp⟩, harr⟩ := (CW.plain hn0).1 (first hT') a ha b (.inScope c :: k) cs
 cases e with
 | normal => exact ⟨.normal, a₁, w₁, ⟨f, hf1, hp⟩, .head step_scope (Steps.trans harr (.one step_inScope))⟩
 | exit id => exact ⟨.exit id, a₁, w₁, ⟨f, hf1, hp⟩, fun k' hk => .head step_scope (harr k' (by simp [exitTo, hk]))⟩
 | goto l' =>
  obtain ⟨rfl, y, hl, hW'⟩ := hp
  obtain ⟨e₂, a₂, w₂, hq₂, harr₂⟩ := key _ y a₁ w₁ rfl (hf1.weaken hl) hW'
  exact ⟨e₂, a₂, w₂, hq₂, .of_steps (.head step_scope (harr _ hg)) harr₂⟩
 | ret => exact ⟨_, a₁, w₁, ⟨f, hf1, hp⟩, .of_steps (.one step_scope) harr⟩
 | panic ch => exact ⟨_, a₁, w₁, ⟨f, hf1, hp⟩, .of_steps (.one step_scope) harr⟩
 | outgrown => exact ⟨_, a₁, w₁, ⟨f, hf1, hp⟩, .of_steps (.one step_scope) harr⟩
section
variable {P : Program} {n : NN} {fr : Fr} {w : World} {ty : TypeId}
theorem Y.and_k {x y : Operand} {k : IntKind} {p q : Int} {t t' : TypeId} {r : Int} (hx : ev fr x = some (.int k p)) (hy : ev fr y = some (.int k q)) (hr : k.wrap ((BitVec.ofInt k.bits p &&& BitVec.ofInt k.bits q).toNat : Int) = r) : Yw P n fr (.binOp .and t x y t') ty w (.int k r) w :=
 Y.bin hx hy (by simp [eqGuard_at_int]) (by
  have e : binOp .and t (.int k p) (.int k q) = pure (.int k r) := by simp only [binOp, ne_eq, not_true_eq_false, if_false, Op.intBits, hr]
  rw [e]; rfl)
theorem Y.shl {x y : Operand} {k k' : IntKind} {p q r : Int} {t t' : TypeId} (hx : ev fr x = some (.int k p)) (hy : ev fr y = some (.int k' q)) (hq : 0 ≤ q) (hr : k.wrap (p * (2 ^ (min q.toNat k.bits))) = r) : Yw P n fr (.binOp .shl t x y t') ty w (.int k r) w :=
 Y.bin hx hy (by simp [eqGuard_at_int]) (by simp [binOp, Op.shift, Int.not_lt.2 hq, hr])
end
theorem and127 (b : UInt8) : IntKind.u8.wrap ((BitVec.ofInt IntKind.u8.bits (b.toNat : Int) &&& BitVec.ofInt IntKind.u8.bits 127).toNat : Int) = ((b.toNat % 128 : Nat) : Int) := by
 have h : ∀ m, m < 256 → IntKind.u8.wrap ((BitVec.ofInt IntKind.u8.bits ((m : Nat) : Int) &&& BitVec.ofInt IntKind.u8.bits 127).toNat : Int) = ((m % 128 : Nat) : Int) := by decide +kernel
 exact h _ b.toNat_lt
theorem wrap_nat {n : Nat} (h : n < 9223372036854775808) : IntKind.i64.wrap (n : Int) = (n : Int) := IntWalk.i64_in _ o2_
theorem toNat_of {n : Nat} (h : n < 18446744073709551616) : (BitVec.ofInt 64 (n : Int)).toNat = n := by
 rw [BitVec.toNat_ofInt]; omega
theorem pow7 (i : Nat) : 2 ^ (7 * i) = 128 ^ i := by rw [Nat.pow_mul]
theorem low_high {s y i : Nat} (hs : s < 128 ^ i) (hy : y < 128) (hi : i ≤ 8) : s + y * 128 ^ i < 128 ^ (i + 1) ∧ s + y * 128 ^ i < 9223372036854775808 := by
 have h1 : s + y * 128 ^ i < 128 ^ (i + 1) := by
  have := Nat.mul_le_mul_right (128 ^ i) (Nat.le_sub_one_of_lt hy)
  rw [Nat.pow_succ]; omega
 refine ⟨h1, Nat.lt_of_lt_of_le h1 ?_⟩
 have := Nat.pow_le_pow_right (n := 128) de_ (Nat.add_le_add_right hi 1)
 simpa using this
theorem shl_at {y i : Nat} (hy : y < 128) (hi : i ≤ 8) : IntKind.i64.wrap ((y : Int) * (2 ^ (min (7 * (i : Int)).toNat IntKind.i64.bits))) = ((y * 128 ^ i : Nat) : Int) := by
 have e : min (7 * (i : Int)).toNat IntKind.i64.bits = 7 * i := by show min _ 64 = _; omega
 have h := (low_high (s := 0) (Nat.pow_pos de_) hy hi).2
 have e2 : (y : Int) * (2 ^ (7 * i)) = ((y * 128 ^ i : Nat) : Int) := by rw [← pow7]; simp
 rw [e, e2, wrap_nat om_]
theorem or_at {s y i : Nat} (hs : s < 128 ^ i) (hy : y < 128) (hi : i ≤ 8) : IntKind.i64.wrap ((BitVec.ofInt IntKind.i64.bits (s : Int) ||| BitVec.ofInt IntKind.i64.bits ((y * 128 ^ i : Nat) : Int)).toNat : Int) = ((s + y * 128 ^ i : Nat) : Int) := by
 have h := (low_high hs hy hi).2
 show IntKind.i64.wrap ((BitVec.ofInt 64 (s : Int) ||| BitVec.ofInt 64 ((y * 128 ^ i : Nat) : Int)).toNat : Int) = _
 rw [BitVec.toNat_or, toNat_of om_, toNat_of om_]
 have e : s ||| y * 128 ^ i = s + y * 128 ^ i := by
  rw [← pow7] at hs ⊢
  have := Nat.two_pow_add_eq_or_of_lt hs y
  rw [Nat.or_comm, Nat.mul_comm, ← this, Nat.add_comm]
 rw [e, wrap_nat h]
theorem Y.conv_nat {P : Program} {n : NN} {fr : Fr} {w : World} {ty : TypeId} {x : Operand} {k : IntKind} {m : Nat} {s d : TypeId} {ds : TypeDesc} (hs : P.underlying s = some ds) (hd : P.underlying d = some (.int .i64)) (hx : ev fr x = some (.int k (m : Int))) (h : m < 9223372036854775808) :
  Yw P n fr (.convert s d x) ty w (.int .i64 (m : Int)) w := by
 have := Y.conv_int (n := n) (w := w) (ty := ty) hs hd hx
 rwa [wrap_nat h] at this
theorem Mem.byteAt {w : World} {a : Addr} {bs : List UInt8} {j : Nat} {b : UInt8} {z : Int} (h : Mem w a (bytesC bs)) (hb : bs[j]? = some b) (hz : z = (j : Int)) : w.cell? (a.add (z.toNat * 1)) = some (.int .u8 (b.toNat : Int)) := by
 subst hz
 rw [Int.toNat_natCast, Nat.mul_one]
 exact h j _ (bytesC_get hb)
theorem Y.slice_slI {P : Program} {n : NN} {fr : Fr} {w : World} {x lo hi : Operand} {t e ty : TypeId} {a : Addr} {m c k i j : Nat} {ki kj : IntKind} {zi zj : Int} (hT : P.underlying t = some (.slice e)) (hx : ev fr x = some (.slice (some a) m c)) (hlo : ev fr lo = some (.int ki zi)) (hhi : ev fr hi = some (.int kj zj))
  (hS : (P.info? e).map (·.size) = some k) (hi' : zi = (i : Int)) (hj' : zj = (j : Int)) (h1 : i ≤ j) (h2 : j ≤ c) : Yw P n fr (.slice t x (some lo) (some hi) none) ty w (.slice (some (if c = i then a else a.add (i * k))) (j - i) (c - i)) w := by
 subst hi'; subst hj'; exact Y.slice_sl hT hx hlo hhi hS h1 h2
section place
variable {w : World} {a : Addr} {bv pv ov : Value} {at_ : Int} {rest : List Value} {au no : ByteArray}
theorem Mem.place0 (h : Mem w a (bv :: .int .i64 at_ :: rest)) : w.cell? (a.add 0) = some bv := h.cell 0 rfl
theorem Mem.place1 (h : Mem w a (bv :: .int .i64 at_ :: rest)) : w.cell? (a.add 1) = some (.int .i64 at_) := h.cell 1 rfl
def rdC (bv : Value) (at_ : Int) (pv : Value) (au no : ByteArray) (ov : Value) : List Value := bv :: .int .i64 at_ :: comC pv au no ov
theorem Mem.reader0 (h : Mem w a (rdC bv at_ pv au no ov)) : Mem w (a.add 0) (rdC bv at_ pv au no ov) := by rw [show a.add 0 = a by simp [Addr.add]]; exact h
theorem Mem.reader1 (h : Mem w a (rdC bv at_ pv au no ov)) : Mem w (a.add 2) (comC pv au no ov) := h.sub 2 fun j v hj => by
 rw [Nat.add_comm]; exact hj
end place
end Go.Fw
namespace Go.Fw
open Go.RowKit
theorem By.slMem {w : World} {a : Addr} {m c i j : Nat} {bs : List UInt8} (h : Mem w a (bytesC bs)) (hl : bs.length = m) (hc : m ≤ c) (h1 : i < j) (h2 : j ≤ m) : Mem w (if c = i then a else a.add (i * 1)) (bytesC ((bs.drop i).take (j - i))) := by
 rw [if_neg om_, Nat.mul_one]
 refine h.sub i fun k v hk => ?_
 rw [bytesC, List.getElem?_map] at hk ⊢
 rw [List.getElem?_take] at hk
 split at hk
 ·
  rwa [List.getElem?_drop] at hk
 ·
  cases hk
end Go.Fw
/- Calls that are put off: from a frame without to a frame with one. No condition; no program. -/
namespace Go.Fw
open Go.RowKit
section
variable {P : Program} {n : NN} {fr : Fr} {w : World}
theorem CW.wp {c : Code} {Φ : Exit → Fr → World → Prop} {Q : Exit → Act → World → Prop} {a : Act} (h : CW P c n Φ fr w) (ha : Rep n a fr) (hQ : ∀ e f a' w', Rep n a' f → Φ e f w' → Q e a' w') (hn0 : n.2.2 = none := by rfl) : c.wp P Q a w :=
 wp_mono ((CW.plain hn0).1 h a ha) fun e a' w' ⟨f, hf, hp⟩ => hQ e f a' w' hf hp
theorem wp_defer {id d : Nat} {f : Fn} {xs : List Operand} {vs : List Value} {ty ty' : TypeId} {pos pos' : String} {aft aft' : Array Edge} {tys : Array TypeId} {y : Code} {Q : Exit → Act → World → Prop} {a : Act}
  (ha : Rep n a fr) (hx : evs fr xs = some vs) (hd : d < n.1)
  (h : ∀ a', Rep (n.1, ⟨.fn f vs.toArray, #[]⟩ :: n.2.1, n.2.2) a' ((d, .func f #[] vs.toArray) :: fr) → y.wp P Q a' w) :
  (Code.seq (.region id [⟨some d, .makeFunc f #[] xs.toArray, ty, pos, aft, none⟩, ⟨none, .defer { callee := .value (.tmp d), args := #[], argTypes := tys }, ty', pos', aft', none⟩].toArray false) y).wp P Q a w := by
 refine wp_seq (wp_region_lit ?_)
 refine wpList_plain rfl fun K hK => ?_
 have h1 : (execOp a.eval ⟨some d, .makeFunc f #[] xs.toArray, ty, pos, aft, none⟩).run P w = .ok (.value (.func f #[] vs.toArray)) w := by
  have := ha.evs hx
  simp [execOp, Instr.makeFunc, this]
 unfold Oper.wp
 rw [h1]
 refine hK _ _ ?_
 have ha1 := ha.put hd (.func f #[] vs.toArray)
 refine wpList_plain rfl fun K2 hK2 => ?_
 have hg : (a.put (some d) (.func f #[] vs.toArray)).eval (.tmp d) = .func f #[] vs.toArray := ha1.ev (by simp [ev, Fr.get])
 have h2 : (execOp (a.put (some d) (.func f #[] vs.toArray)).eval ⟨none, .defer { callee := .value (.tmp d), args := #[], argTypes := tys }, ty', pos', aft', none⟩).run P w = .ok (.defer ⟨.fn f vs.toArray, #[]⟩) w := by
  simp [execOp, resolve, hg, Deferred.ofValue]
 unfold Oper.wp
 rw [h2]
 refine hK2 _ _ ?_
 refine wpList_nil ?_
 exact h _ ⟨by simpa [Act.put] using ha1.size, by simp [Act.put, ha.defers], fun t v hv => by simpa [Act.put] using ha1.get t v hv⟩
end
end Go.Fw
/- The plain law: what the functions compute, on Lean's data. No condition; no program. -/
namespace Go.Pl
open Go.Fw
def rootB (r : RefD) : Bool := decide (r = RefD.zero)
def refB (r : RefD) : Bool := if r.own then decide (r.c = Dig.zero) && decide (0 < r.n) else rootB r || (decide (0 < r.n) && decide (r.n ≤ 2000))
def refKind (r : RefD) : Int := if r.own then (if r.c ≠ Dig.zero ∨ r.n < 1 then 3 else 1) else if 1 ≤ r.n ∧ r.n ≤ 2000 then 2 else if r.n = 0 ∧ r.c = Dig.zero then 0 else 3
def lessB (a b : Dig) : Bool := Op.bytesLess a.1 b.1
theorem bytesLess_self : ∀ l : List UInt8, Op.bytesLess l l = false
 | [] => rfl
 | a :: l => by simp [Op.bytesLess, bytesLess_self l]
theorem take_succ {α : Type} {l : List α} {i : Nat} {x : α} (h : l[i]? = some x) : l.take (i + 1) = l.take i ++ [x] := by
 rw [List.take_add_one, h]; rfl
theorem bytesLess_at : ∀ {a b : List UInt8} {i : Nat} {x y : UInt8}, a.take i = b.take i → a[i]? = some x → b[i]? = some y → x ≠ y → Op.bytesLess a b = decide (x < y)
 | x' :: a, y' :: b, 0, x, y, _, hx, hy, hne => by
  simp at hx hy
  subst hx; subst hy
  simp [Op.bytesLess, hne]
 | x' :: a, y' :: b, i + 1, x, y, ht, hx, hy, hne => by
  simp at hx hy
  simp only [List.take_succ_cons, List.cons.injEq] at ht
  obtain ⟨rfl, ht⟩ := ht
  have := bytesLess_at ht hx hy hne
  have hlt : ¬ x' < x' := by simp
  simp [Op.bytesLess, this, hlt]
 | [], _, i, x, y, _, hx, _, _ => by simp at hx
 | _ :: _, [], i, x, y, _, _, hy, _ => by simp at hy
def kindAt (l : List OpD) (k : Nat) : Int := ((l[k]?).map (·.kind)).getD 0
def rightX (l : List OpD) (i : Int) (x : OpD) : Int :=
 if refB x.at_ = false then 1
 else if x.kind = 1 ∧ (x.left = true ∧ rootB x.at_ = true) then 1
 else if x.kind = 2 ∧ (x.left = true ∨ (x.byte.toNat : Int) ≠ 0 ∨ rootB x.at_ = true) then 1
 else if x.kind ≠ 1 ∧ x.kind ≠ 2 then 1
 else if x.at_.own = true ∧ (i ≤ x.at_.n ∨ kindAt l (x.at_.n - 1).toNat ≠ 1) then 5 else 0
def rightI (l : List OpD) (i : Int) : Int := if i < 1 ∨ (l.length : Int) < i then 9 else match l[(i - 1).toNat]? with
 | some x => rightX l i x
 | none => 9
theorem rightI_of {l : List OpD} {i : Int} {x : OpD} (h : ¬ (i < 1 ∨ (l.length : Int) < i)) (hx : l[(i - 1).toNat]? = some x) : rightI l i = rightX l i x := by
 rw [rightI, if_neg h, hx]
theorem root_iff (r : RefD) : rootB r = true ↔ r.own = false ∧ r.c = Dig.zero ∧ r.n = 0 := by
 obtain ⟨o, c, n⟩ := r
 simp [rootB, RefD.zero]
theorem rk1 (r : RefD) : refKind r = 1 ↔ r.own = true ∧ refB r = true := by
 obtain ⟨o, c, n⟩ := r
 cases o <;> by_cases h1 : c = Dig.zero <;> simp [refKind, refB, rootB, RefD.zero, h1] <;> (repeat' split) <;> first | omega | (simp_all; done) | (simp_all; omega)
def lettersL : List UInt8 := [65, 66, 67, 68, 69, 70, 71, 72, 73, 74, 75, 76, 77, 78, 79, 80, 81, 82, 83, 84, 85, 86, 87, 88, 89, 90, 97, 98, 99, 100, 101, 102, 103, 104, 105, 106, 107, 108, 109, 110, 111, 112, 113, 114, 115, 116, 117, 118, 119, 120, 121, 122, 48, 49, 50, 51, 52, 53, 54, 55, 56, 57, 45, 95, 46, 35, 64, 126]
def letterI (c : Int) : Bool := decide ((65 ≤ c ∧ c ≤ 90) ∨ (97 ≤ c ∧ c ≤ 122) ∨ (48 ≤ c ∧ c ≤ 57) ∨ c = 45 ∨ c = 95 ∨ c = 46 ∨ c = 35 ∨ c = 64 ∨ c = 126)
def letter (c : UInt8) : Bool := letterI (c.toNat : Int)
theorem letter_all : ∀ n, n < 256 → decide (Lib.indexByte lettersL (UInt8.ofNat n) < 0) = !letterI (n : Int) := by decide +kernel
theorem letter_index (c : UInt8) : Lib.indexByte lettersL c < 0 ↔ letter c = false := by
 have h := letter_all c.toNat c.toNat_lt
 rw [UInt8.ofNat_toNat] at h
 unfold letter
 rw [Bool.eq_iff_iff] at h
 simp at h
 rw [h]
def nameB (l : List UInt8) : Bool := l.all letter && (decide (1 ≤ l.length) && decide (l.length ≤ 24))
theorem all_take_succ {l : List UInt8} {i : Nat} {x : UInt8} {p : UInt8 → Bool} (h : (l.take i).all p = true) (hx : l[i]? = some x) (hp : p x = true) : (l.take (i + 1)).all p = true := by
 rw [take_succ hx, List.all_append, h]; simp [hp]
theorem nameB_no {l : List UInt8} {i : Nat} {x : UInt8} (hx : l[i]? = some x) (hp : letter x = false) : nameB l = false := by
 have : l.all letter = false := by
  rw [Bool.eq_false_iff]
  intro h
  rw [List.all_eq_true] at h
  have := h x (List.mem_of_getElem? hx)
  rw [hp] at this; cases this
 simp [nameB, this]
theorem nameB_end {l : List UInt8} {i : Nat} (h : (l.take i).all letter = true) (hi : l.length ≤ i) : nameB l = (decide (1 ≤ l.length) && decide (l.length ≤ 24)) := by
 rw [List.take_of_length_le hi] at h
 simp [nameB, h]
theorem get_toList {s : ByteArray} {i : Nat} (h : i < s.size) : s.toList[i]? = some s[i] := by
 rw [ByteArray.toList_eq]
 show s.data.toList[i]? = some s.data[i]
 simp
def risingB : List Dig → Bool
 | [] => true
 | [_] => true
 | x :: y :: r => lessB x y && risingB (y :: r)
theorem rising_iff : ∀ l : List Dig, risingB l = true ↔ ∀ i x y, l[i]? = some x → l[i + 1]? = some y → lessB x y = true
 | [] => by simp [risingB]
 | [a] => by simp [risingB]
 | a :: b :: r => by
  rw [risingB, Bool.and_eq_true, rising_iff (b :: r)]
  constructor
  ·
   rintro ⟨h1, h2⟩ i x y hx hy
   cases i with
   | zero => simp at hx hy; subst hx; subst hy; exact h1
   | succ i => exact h2 i x y (by simpa using hx) (by simpa using hy)
  ·
   intro h
   exact ⟨h 0 a b rfl rfl, fun i x y hx hy => h (i + 1) x y (by simpa using hx) (by simpa using hy)⟩
def opsErrFrom (l : List OpD) : Nat → Nat → Int
 | _, 0 => 0
 | i, n + 1 => if rightI l (i + 1) ≠ 0 then rightI l (i + 1) else opsErrFrom l (i + 1) n
def opsErr (l : List OpD) : Int := opsErrFrom l 0 l.length
theorem opsErrFrom_skip (l : List OpD) : ∀ (k i n : Nat), (∀ j, i ≤ j → j < i + k → rightI l (j + 1) = 0) → k ≤ n → opsErrFrom l i n = opsErrFrom l (i + k) (n - k)
 | 0, i, n, _, _ => rfl
 | k + 1, i, n + 1, h, hk => by
  have h0 := h i (Nat.le_refl _) om_
  rw [opsErrFrom, if_neg (by simp [h0]), opsErrFrom_skip l k (i + 1) n (fun j h1 h2 => h j om_ om_) om_]
  congr 1
  ·
   omega
  ·
   omega
 | k + 1, i, 0, _, hk => by omega
theorem opsErr_at {l : List OpD} {i : Nat} (h : ∀ j : Nat, j < i → rightI l (j + 1) = 0) (hi : i < l.length) (hne : rightI l (i + 1) ≠ 0) : opsErr l = rightI l (i + 1) := by
 rw [opsErr, opsErrFrom_skip l i 0 l.length (fun j _ hj => h j om_) om_, Nat.zero_add]
 obtain ⟨m, hm⟩ : ∃ m, l.length - i = m + 1 := ⟨l.length - i - 1, by omega⟩
 rw [hm, opsErrFrom, if_pos hne]
theorem opsErr_end {l : List OpD} (h : ∀ j : Nat, j < l.length → rightI l (j + 1) = 0) : opsErr l = 0 := by
 rw [opsErr, opsErrFrom_skip l l.length 0 l.length (fun j _ hj => h j om_) om_, Nat.sub_self]
 rfl
def mayI (c : ComD) : Int :=
 if 8 < c.parents.length then 4 else if risingB c.parents = false then 7 else if nameB c.author.toList = false then 11
 else if 200 < c.note.size then 3 else if 2000 < c.ops.length then 4 else opsErr c.ops
end Go.Pl
/- The plain law of a commit's bytes. No condition; no program. -/
namespace Go.Pl
open Go.Fw
def vi (n : Nat) : List UInt8 := if n < 128 then [UInt8.ofNat n] else UInt8.ofNat (n % 128 + 128) :: vi (n / 128)
termination_by n
theorem vi_lt {n : Nat} (h : n < 128) : vi n = [UInt8.ofNat n] := by rw [vi, if_pos h]
theorem vi_ge {n : Nat} (h : ¬ n < 128) : vi n = UInt8.ofNat (n % 128 + 128) :: vi (n / 128) := by rw [vi, if_neg h]
theorem vi_len : ∀ (k n : Nat), n < 128 ^ (k + 1) → (vi n).length ≤ k + 1
 | k, n, h => by
  by_cases h1 : n < 128
  ·
   rw [vi_lt h1]; simp
  ·
   rw [vi_ge h1]
   cases k with
   | zero => simp at h; omega
   | succ k =>
    have h2 : n / 128 < 128 ^ (k + 1) := by
     rw [Nat.pow_succ] at h
     exact Nat.div_lt_of_lt_mul (by rw [Nat.mul_comm]; exact h)
    have := vi_len k (n / 128) h2
    simp only [List.length_cons]
    omega
theorem vi_len9 {n : Nat} (h : n < 9223372036854775808) : (vi n).length ≤ 9 := vi_len 8 n om_
theorem vi_pos (n : Nat) : 0 < (vi n).length := by rw [vi]; split <;> simp
def numB (n : Int) : List UInt8 := if n < 0 then [] else vi n.toNat
theorem numB_len {n : Int} (h : n < 9223372036854775808) : (numB n).length ≤ 9 := by
 unfold numB
 split
 ·
  simp
 ·
  exact vi_len9 om_
theorem numB_nat (n : Nat) : numB (n : Int) = vi n := by rw [numB, if_neg om_]; rfl
def textB (s : List UInt8) : List UInt8 := vi s.length ++ s
def flagI (x : OpD) : Int := (if x.kind = 2 then 1 else 0) + (if x.left = true then 2 else 0) + (if x.at_.own = true then 4 else if rootB x.at_ = true then 0 else 8)
def opB (x : OpD) : List UInt8 := (if x.at_.own = true then numB (flagI x) ++ numB x.at_.n else if rootB x.at_ = true then numB (flagI x) else numB (flagI x) ++ x.at_.c.1 ++ numB x.at_.n) ++ (if x.kind = 1 then [x.byte] else [])
def comB (c : ComD) : List UInt8 := vi c.parents.length ++ (c.parents.map (·.1)).flatten ++ textB c.author.toList ++ textB c.note.toList ++ vi c.ops.length ++ (c.ops.map opB).flatten
theorem opsErrFrom_zero (l : List OpD) : ∀ (n i : Nat), opsErrFrom l i n = 0 → ∀ j, i ≤ j → j < i + n → rightI l (j + 1) = 0
 | 0, i, _, j, h1, h2 => by omega
 | n + 1, i, h, j, h1, h2 => by
  rw [opsErrFrom] at h
  split at h
  ·
   rename_i hne; exact absurd h hne
  ·
   rename_i hne
   simp only [ne_eq, Decidable.not_not] at hne
   rcases Nat.eq_or_lt_of_le h1 with rfl | h1
   ·
    exact hne
   ·
    exact opsErrFrom_zero l n (i + 1) h j om_ om_
structure MayOk (c : ComD) : Prop where
 parents : c.parents.length ≤ 8
 rising : risingB c.parents = true
 author : nameB c.author.toList = true
 note : c.note.size ≤ 200
 ops : c.ops.length ≤ 2000
 right : ∀ j, j < c.ops.length → rightI c.ops ((j : Int) + 1) = 0
theorem mayI_ok {c : ComD} (h : mayI c = 0) : MayOk c := by
 unfold mayI at h
 split at h
 ·
  simp at h
 split at h
 ·
  simp at h
 split at h
 ·
  simp at h
 split at h
 ·
  simp at h
 split at h
 ·
  simp at h
 rename_i h1 h2 h3 h4 h5
 exact ⟨by omega, by simpa using h2, by simpa using h3, by omega, by omega, fun j hj => opsErrFrom_zero c.ops _ 0 h j om_ om_⟩
theorem MayOk.name {c : ComD} (h : MayOk c) : c.author.size ≤ 24 := by
 have := h.author
 simp only [nameB, Bool.and_eq_true, decide_eq_true_eq, toList_length] at this
 omega
theorem MayOk.right' {c : ComD} (h : MayOk c) {j : Nat} {x : OpD} (hx : c.ops[j]? = some x) : rightX c.ops ((j : Int) + 1) x = 0 := by
 have hj := (List.getElem?_eq_some_iff.1 hx).1
 have := h.right j hj
 rwa [rightI_of om_ (by rw [show ((j : Int) + 1 - 1).toNat = j by omega]; exact hx)] at this
theorem rightX_zero {l : List OpD} {i : Int} {x : OpD} (h : rightX l i x = 0) : refB x.at_ = true ∧ ¬ (x.kind = 1 ∧ x.left = true ∧ rootB x.at_ = true) ∧ ¬ (x.kind = 2 ∧ (x.left = true ∨ (x.byte.toNat : Int) ≠ 0 ∨ rootB x.at_ = true)) ∧ (x.kind = 1 ∨ x.kind = 2) ∧ (x.at_.own = true → x.at_.n < i ∧ kindAt l (x.at_.n - 1).toNat = 1) := by
 unfold rightX at h
 split at h
 ·
  simp at h
 split at h
 ·
  simp at h
 split at h
 ·
  simp at h
 split at h
 ·
  simp at h
 split at h
 ·
  simp at h
 rename_i h1 h2 h3 h4 h5
 refine ⟨by simpa using h1, h2, h3, by omega, fun ho => ?_⟩
 have h6 := not_or.1 (fun e => h5 ⟨ho, e⟩)
 exact ⟨by omega, Decidable.not_not.1 h6.2⟩
theorem MayOk.n {c : ComD} (h : MayOk c) {x : OpD} (hx : x ∈ c.ops) : 0 ≤ x.at_.n ∧ x.at_.n ≤ 2000 := by
 obtain ⟨j, hj⟩ := List.mem_iff_getElem?.1 hx
 have hjl := (List.getElem?_eq_some_iff.1 hj).1
 have ho := h.ops
 obtain ⟨h1, _, _, _, h5⟩ := rightX_zero (h.right' hj)
 unfold refB at h1
 split at h1
 ·
  rename_i hown
  have := (h5 hown).1
  simp at h1
  omega
 ·
  simp only [Bool.or_eq_true, root_iff, Bool.and_eq_true, decide_eq_true_eq] at h1
  rcases h1 with h1 | h1 <;> omega
def gn : Nat → Nat → List UInt8 → Except Int (Nat × Nat)
 | _, _, [] => .error 8
 | i, s, x :: r => if 128 ≤ x.toNat ∧ i + 1 = 9 then .error 9 else if x.toNat = 0 ∧ 0 < i then .error 7 else
  if 128 ≤ x.toNat then gn (i + 1) (s + x.toNat % 128 * 128 ^ i) r else .ok (s + x.toNat % 128 * 128 ^ i, i + 1)
def gnum (bs : List UInt8) (at_ : Nat) : Except Int (Nat × Nat) := match gn 0 0 (bs.drop at_) with
 | .error e => .error e
 | .ok (n, k) => .ok (n, at_ + k)
def gtext (bs : List UInt8) (at_ : Nat) : Except Int (List UInt8 × Nat) := match gnum bs at_ with
 | .error e => .error e
 | .ok (n, nx) => if 131072 < n then .error 3 else if bs.length < nx + n then .error 8 else .ok ((bs.drop nx).take n, nx + n)
theorem gn_len : ∀ (l : List UInt8) (i s n k : Nat), gn i s l = .ok (n, k) → i < k ∧ k ≤ i + l.length
 | [], i, s, n, k, h => by cases h
 | x :: r, i, s, n, k, h => by
  rw [gn] at h
  split at h
  ·
   cases h
  split at h
  ·
   cases h
  split at h
  ·
   have := gn_len r _ _ _ _ h
   simp only [List.length_cons]; omega
  ·
   injection h with h; injection h with h1 h2
   simp only [List.length_cons]; omega
theorem gnum_len {bs : List UInt8} {at_ n nx : Nat} (h : gnum bs at_ = .ok (n, nx)) (ha : at_ ≤ bs.length) : at_ < nx ∧ nx ≤ bs.length := by
 unfold gnum at h
 split at h
 ·
  cases h
 ·
  rename_i n' k hk
  injection h with h; injection h with h1 h2
  have := gn_len _ _ _ _ _ hk
  rw [List.length_drop] at this
  omega
theorem gtext_len {bs : List UInt8} {at_ nx : Nat} {t : List UInt8} (h : gtext bs at_ = .ok (t, nx)) (ha : at_ ≤ bs.length) : at_ < nx ∧ nx ≤ bs.length ∧ t.length ≤ 131072 := by
 unfold gtext at h
 split at h
 ·
  cases h
 ·
  rename_i n k hk
  have := gnum_len hk ha
  split at h
  ·
   cases h
  split at h
  ·
   cases h
  injection h with h; injection h with h1 h2
  subst h1
  rw [List.length_take, List.length_drop]
  omega
def gE (bs : List UInt8) (at_ : Nat) : Int := match gnum bs at_ with | .error e => e | .ok _ => 0
def gN (bs : List UInt8) (at_ : Nat) : Int := match gnum bs at_ with | .error _ => 0 | .ok (n, _) => (n : Int)
def gX (bs : List UInt8) (at_ : Nat) : Int := match gnum bs at_ with | .error _ => 0 | .ok (_, x) => (x : Int)
theorem gn_err : ∀ (l : List UInt8) (i s : Nat) (e : Int), gn i s l = .error e → e ≠ 0
 | [], i, s, e, h => by injection h with h; omega
 | x :: r, i, s, e, h => by
  rw [gn] at h
  split at h
  ·
   injection h with h; omega
  split at h
  ·
   injection h with h; omega
  split at h
  ·
   exact gn_err r _ _ _ h
  ·
   cases h
theorem gnum_err {bs : List UInt8} {at_ : Nat} {e : Int} (h : gnum bs at_ = .error e) : e ≠ 0 := by
 unfold gnum at h
 split at h
 ·
  rename_i e' he; injection h with h; subst h; exact gn_err _ _ _ _ he
 ·
  cases h
theorem gE_zero {bs : List UInt8} {at_ : Nat} (h : gE bs at_ = 0) : ∃ n nx, gnum bs at_ = .ok (n, nx) ∧ gN bs at_ = (n : Int) ∧ gX bs at_ = (nx : Int) := by
 unfold gE at h
 split at h
 ·
  rename_i e he; exact absurd h (gnum_err he)
 ·
  rename_i p hp
  exact ⟨p.1, p.2, hp, by simp only [gN, hp], by simp only [gX, hp]⟩
theorem gE_ne {bs : List UInt8} {at_ : Nat} (h : gE bs at_ ≠ 0) : gnum bs at_ = .error (gE bs at_) ∧ gN bs at_ = 0 ∧ gX bs at_ = 0 := by
 cases hg : gnum bs at_ with
 | error e => simp only [gE, gN, gX, hg]; exact ⟨trivial, trivial, trivial⟩
 | ok p => simp only [gE, hg] at h; exact absurd rfl h
def gtE (bs : List UInt8) (at_ : Nat) : Int := match gtext bs at_ with | .error e => e | .ok _ => 0
def gtT (bs : List UInt8) (at_ : Nat) : List UInt8 := match gtext bs at_ with | .error _ => [] | .ok (t, _) => t
def gtX (bs : List UInt8) (at_ : Nat) : Int := match gtext bs at_ with | .error _ => 0 | .ok (_, x) => (x : Int)
theorem gtext_err {bs : List UInt8} {at_ : Nat} {e : Int} (h : gtext bs at_ = .error e) : e ≠ 0 := by
 unfold gtext at h
 split at h
 ·
  rename_i e' he; injection h with h; subst h; exact gnum_err he
 ·
  split at h
  ·
   injection h with h; omega
  split at h
  ·
   injection h with h; omega
  ·
   cases h
theorem gtE_zero {bs : List UInt8} {at_ : Nat} (h : gtE bs at_ = 0) : ∃ t nx, gtext bs at_ = .ok (t, nx) ∧ gtT bs at_ = t ∧ gtX bs at_ = (nx : Int) := by
 unfold gtE at h
 split at h
 ·
  rename_i e he; exact absurd h (gtext_err he)
 ·
  rename_i p hp
  exact ⟨p.1, p.2, hp, by simp only [gtT, hp], by simp only [gtX, hp]⟩
theorem gtE_ne {bs : List UInt8} {at_ : Nat} (h : gtE bs at_ ≠ 0) : gtext bs at_ = .error (gtE bs at_) := by
 cases hg : gtext bs at_ with
 | error e => simp only [gtE, hg]
 | ok p => simp only [gtE, hg] at h; exact absurd rfl h
theorem gt_of_error {bs : List UInt8} {at_ : Nat} {e : Int} (h : gtext bs at_ = .error e) : gtE bs at_ = e ∧ gtT bs at_ = [] ∧ gtX bs at_ = 0 := by simp only [gtE, gtT, gtX, h]; exact ⟨trivial, trivial, trivial⟩
theorem gt_of_ok {bs t : List UInt8} {at_ nx : Nat} (h : gtext bs at_ = .ok (t, nx)) : gtE bs at_ = 0 ∧ gtT bs at_ = t ∧ gtX bs at_ = (nx : Int) := by simp only [gtE, gtT, gtX, h]; exact ⟨trivial, trivial, trivial⟩
end Go.Pl
namespace Go.Pl
theorem gtext_bad {bs : List UInt8} {at_ : Nat} {e : Int} (h : gnum bs at_ = .error e) : gtext bs at_ = .error e := by unfold gtext; rw [h]
theorem gtext_num {bs : List UInt8} {at_ n nx : Nat} (h : gnum bs at_ = .ok (n, nx)) : gtext bs at_ = if 131072 < n then .error 3 else if bs.length < nx + n then .error 8 else .ok ((bs.drop nx).take n, nx + n) := by unfold gtext; rw [h]
end Go.Pl
namespace Go.Pl
open Go.Fw
def gdig (bs : List UInt8) (at_ : Nat) : Except Int (Dig × Nat) := if h : at_ + 32 ≤ bs.length then .ok (⟨(bs.drop at_).take 32, by rw [List.length_take, List.length_drop]; omega⟩, at_ + 32) else .error 8
def gopD (bs : List UInt8) (n at_ : Nat) : Except Int (Dig × Nat) := if 8 ≤ n then gdig bs at_ else .ok (Dig.zero, at_)
def gopN (bs : List UInt8) (n at_ : Nat) : Except Int (Nat × Nat) := if 4 ≤ n then (match gnum bs at_ with
 | .error e => .error e
 | .ok (k, a) => if k = 0 then .error 7 else .ok (k, a)) else .ok (0, at_)
def gopB (bs : List UInt8) (n at_ : Nat) : Except Int (UInt8 × Nat) := if n % 2 = 0 then (match bs[at_]? with
 | some b => .ok (b, at_ + 1)
 | none => .error 8) else .ok (0, at_)
def gop (bs : List UInt8) (at_ : Nat) : Except Int (OpD × Nat) := match gnum bs at_ with
 | .error e => .error e
 | .ok (n, a1) => if 12 ≤ n then .error 7 else match gopD bs n a1 with
  | .error e => .error e
  | .ok (d, a2) => match gopN bs n a2 with
   | .error e => .error e
   | .ok (k, a3) => match gopB bs n a3 with
    | .error e => .error e
    | .ok (b, a4) => .ok (⟨if n % 2 = 0 then 1 else 2, decide (n / 2 % 2 = 1), ⟨decide (n / 4 = 1), d, (k : Int)⟩, b⟩, a4)
def gmany {α : Type} (f : List UInt8 → Nat → Except Int (α × Nat)) (bs : List UInt8) : Nat → Nat → Except Int (List α × Nat)
 | 0, at_ => .ok ([], at_)
 | k + 1, at_ => match f bs at_ with
  | .error e => .error e
  | .ok (x, a) => match gmany f bs k a with
   | .error e => .error e
   | .ok (xs, a') => .ok (x :: xs, a')
def gcom (b : List UInt8) : Except Int (ComD × Nat) := match gnum b 0 with
 | .error e => .error e
 | .ok (n, a1) => if 8 < n then .error 4 else match gmany gdig b n a1 with
  | .error e => .error e
  | .ok (ps, a2) => match gtext b a2 with
   | .error e => .error e
   | .ok (au, a3) => match gtext b a3 with
    | .error e => .error e
    | .ok (no, a4) => match gnum b a4 with
     | .error e => .error e
     | .ok (m, a5) => if 2000 < m then .error 4 else match gmany gop b m a5 with
      | .error e => .error e
      | .ok (ops, a6) => .ok (⟨ps, bs au, bs no, ops⟩, a6)
def decI (b : List UInt8) : Except Int ComD := match gcom b with
 | .error e => .error e
 | .ok (c, a) => if a ≠ b.length then .error 7 else if mayI c ≠ 0 then .error (mayI c) else .ok c
end Go.Pl
/- What is a Ref, an operation's root: commit.root, commit.ref, and the reference's Ref, walked; which digest comes first. No condition. -/
namespace Go.Proofs.YtfanmpbapabboaaDoor
open Go.RowKit Go.Fw Go.Pl
theorem root_any (r : RefD) (w : World) : Calls Tryd.prog 69 #[refV r] w (Ret fun v w' => v = .bool (rootB r) ∧ Ext w w') := by
 refine calls_of_CW 6 [2] [(0, refV r)] Tryd.func69 rfl rfl rfl (by simp) args1 ?_
 refine CW.sr fun K1 hK1 => ?_
 refine WL.box rfl rfl de_ fun g1 w1 hx1 hg1 hB1 => ?_
 have hM1 := hB1.mem
 refine WL.a rfl ?_
 refine WL.nil (hK1 _ _ ?_); try clear hK1
 refine CW.sr fun K2 hK2 => ?_
 refine WL.v (Y.load Tryd.underlying99 rfl hM1 (sz_apiRef _) rfl) ?_
 refine WL.v (Y.build0 (build_apiRef _)) ?_
 refine WL.v (Y.eql_apiRef rfl rfl) ?_
 refine WL.a rfl ?_
 refine WL.nil (hK2 _ _ ?_); try clear hK2
 refine CW.ret ⟨_, rfl, ?_⟩
 exact ⟨rfl, hx1⟩
theorem ref_any (r : RefD) (w : World) : Calls Tryd.prog 68 #[refV r] w (Ret fun v w' => v = .bool (refB r) ∧ Ext w w') := by
 refine calls_of_CW 26 [2] [(0, refV r)] Tryd.func68 rfl rfl rfl (by simp) args1 ?_
 refine CW.sr fun K1 hK1 => ?_
 refine WL.box rfl rfl de_ fun g1 w1 hx1 hg1 hB1 => ?_
 have hM1 := hB1.mem
 refine WL.a rfl ?_
 refine WL.nil (hK1 _ _ ?_); try clear hK1
 refine CW.seq fun K2 hK2 => ?_
 refine CW.block ?_
 refine CW.sr fun K3 hK3 => ?_
 refine WL.v (Y.fieldAddr fo_apiRef0 rfl) ?_
 refine WL.v (Y.load1 Tryd.underlying4 rfl hM1.ref0 rfl) ?_
 refine WL.a rfl ?_
 refine WL.nil (hK3 _ _ ?_); try clear hK3
 (first | refine cd_ rfl ?_ ?_ | refine ce_ rfl ?_ ?_ | refine cn_ rfl ?_ ?_ | refine cb_ rfl ?_ ?_) <;> intro ht4
 ·
  -- then
  refine CW.sr fun K5 hK5 => ?_
  refine WL.v (Y.fieldAddr fo_apiRef1 rfl) ?_
  refine WL.v (Y.load Tryd.underlying30 rfl hM1.ref1 (sz_apiDigest _) rfl) ?_
  refine WL.v (Y.build0 (build_apiDigest _)) ?_
  refine WL.v (Y.eql_apiDigest rfl rfl) ?_
  refine WL.m rfl ?_
  (first | refine WL.casesD (d := 10) rfl ?_ ?_ | refine WL.casesND (d := 10) rfl ?_ ?_ | refine WL.cases (d := 10) rfl ?_ ?_) <;> intro hg10
  ·
   -- t10 = T
   refine WL.g rfl rfl (Y.fieldAddr fo_apiRef2 rfl) ?_
   refine WL.g rfl rfl (Y.load1 Tryd.underlying3 rfl hM1.ref2 rfl) ?_
   refine WL.g rfl rfl (Y.gtr rfl rfl) ?_
   refine WL.v (Y.pick rfl rfl) ?_
   refine WL.a rfl ?_
   refine WL.nil (hK5 _ _ ?_); try clear hK5
   refine CW.ret ⟨_, rfl, ?_⟩
   exact ⟨by first | (simp_all [refB, rootB, refKind]; done) | (simp_all [refB, rootB, refKind]; omega), hx1⟩
  ·
   -- t10 = F
   refine WL.o rfl rfl ?_
   refine WL.o rfl rfl ?_
   refine WL.o rfl rfl ?_
   refine WL.v (Y.pick rfl rfl) ?_
   refine WL.a rfl ?_
   refine WL.nil (hK5 _ _ ?_); try clear hK5
   refine CW.ret ⟨_, rfl, ?_⟩
   exact ⟨by first | (simp_all [refB, rootB, refKind]; done) | (simp_all [refB, rootB, refKind]; omega), hx1⟩
 refine CW.sr fun K6 hK6 => ?_
 refine WL.v (Y.load Tryd.underlying99 rfl hM1 (sz_apiRef _) rfl) ?_
 refine WL.call Tryd.func69 rfl rfl rfl (root_any _ _) (by simp) ?_; rintro v w2 ⟨rfl, hx2⟩; have hM1 := hM1.ext hx2
 refine WL.a rfl ?_
 refine WL.nil (hK6 _ _ ?_); try clear hK6
 (first | refine cd_ rfl ?_ ?_ | refine ce_ rfl ?_ ?_ | refine cn_ rfl ?_ ?_ | refine cb_ rfl ?_ ?_) <;> intro ht7
 ·
  -- then
  refine CW.sr fun K8 hK8 => ?_
  refine WL.a rfl ?_
  refine WL.nil (hK8 _ _ ?_); try clear hK8
  refine CW.ret ⟨_, rfl, ?_⟩
  exact ⟨by first | (simp_all [refB, rootB, refKind]; done) | (simp_all [refB, rootB, refKind]; omega), (hx1.thenExt hx2)⟩
 refine CW.skip ?_
 refine hK2 _ _ ?_; try clear hK2
 refine CW.sr fun K9 hK9 => ?_
 refine WL.v (Y.fieldAddr fo_apiRef2 rfl) ?_
 refine WL.v (Y.load1 Tryd.underlying3 rfl hM1.ref2 rfl) ?_
 refine WL.v (Y.gtr rfl rfl) ?_
 refine WL.m rfl ?_
 (first | refine WL.casesD (d := 21) rfl ?_ ?_ | refine WL.casesND (d := 21) rfl ?_ ?_ | refine WL.cases (d := 21) rfl ?_ ?_) <;> intro hg21
 ·
  -- t21 = T
  refine WL.g rfl rfl (Y.fieldAddr fo_apiRef2 rfl) ?_
  refine WL.g rfl rfl (Y.load1 Tryd.underlying3 rfl hM1.ref2 rfl) ?_
  refine WL.g rfl rfl (Y.leq rfl rfl) ?_
  refine WL.v (Y.pick rfl rfl) ?_
  refine WL.a rfl ?_
  refine WL.nil (hK9 _ _ ?_); try clear hK9
  refine CW.ret ⟨_, rfl, ?_⟩
  exact ⟨by first | (simp_all [refB, rootB, refKind]; done) | (simp_all [refB, rootB, refKind]; omega), (hx1.thenExt hx2)⟩
 ·
  -- t21 = F
  refine WL.o rfl rfl ?_
  refine WL.o rfl rfl ?_
  refine WL.o rfl rfl ?_
  refine WL.v (Y.pick rfl rfl) ?_
  refine WL.a rfl ?_
  refine WL.nil (hK9 _ _ ?_); try clear hK9
  refine CW.ret ⟨_, rfl, ?_⟩
  exact ⟨by first | (simp_all [refB, rootB, refKind]; done) | (simp_all [refB, rootB, refKind]; omega), (hx1.thenExt hx2)⟩
theorem less_any (a b : Dig) (w : World) : Calls Tryd.prog 47 #[digV a, digV b] w (Ret fun v w' => v = .bool (lessB a b) ∧ Ext w w') := by
 refine calls_of_CW 13 [4] [(0, digV a), (1, digV b)] Tryd.func47 rfl rfl rfl (by simp) args2 ?_
 refine CW.sr fun K1 hK1 => ?_
 refine WL.box rfl rfl de_ fun g2 w1 hx1 hg2 hB2 => ?_
 have hM2 := hB2.mem
 refine WL.box rfl rfl de_ fun g3 w2 hx2 hg3 hB3 => ?_
 have hM3 := hB3.mem; have hM2 := hM2.ext hx2
 refine WL.a rfl ?_
 refine WL.nil (hK1 _ _ ?_); try clear hK1
 refine CW.seq fun K2 hK2 => ?_
 refine CW.sr fun K3 hK3 => ?_
 refine WL.v (Y.load Tryd.underlying30 rfl hM2 (sz_apiDigest _) rfl) ?_
 refine WL.v (Y.load Tryd.underlying30 rfl hM3 (sz_apiDigest _) rfl) ?_
 refine WL.v (Y.eql_apiDigest rfl rfl) ?_
 refine WL.nil (hK3 _ _ ?_); try clear hK3
 (first | refine cd_ rfl ?_ ?_ | refine ce_ rfl ?_ ?_ | refine cn_ rfl ?_ ?_ | refine cb_ rfl ?_ ?_) <;> intro ht4
 ·
  -- then
  refine CW.sr fun K5 hK5 => ?_
  refine WL.a rfl ?_
  refine WL.nil (hK5 _ _ ?_); try clear hK5
  refine CW.ret ⟨_, rfl, ?_⟩
  exact ⟨by simp_all [lessB, bytesLess_self], hx1.thenExt hx2⟩
 refine CW.skip ?_
 refine hK2 _ _ ?_; try clear hK2
 refine CW.seq fun K6 hK6 => ?_
 refine CW.quiet (fun wq => Ext w2 wq) kr_ kr_ Chg.drew ?_
 refine QL.v (fun wq hq => Y.slice_arr Tryd.underlying30 rfl sz_uint8) ?_
 refine QL.v (fun wq hq => Y.bytes_string Tryd.underlying32 Tryd.underlying5 Tryd.underlying9 rfl (l := a.1) a.2 (fun _ => ⟨_, rfl, hM2.ext hq⟩) (fun h => by cases h)) ?_
 refine QL.v (fun wq hq => Y.slice_arr Tryd.underlying30 rfl sz_uint8) ?_
 refine QL.v (fun wq hq => Y.bytes_string Tryd.underlying32 Tryd.underlying5 Tryd.underlying9 rfl (l := b.1) b.2 (fun _ => ⟨_, rfl, hM3.ext hq⟩) (fun h => by cases h)) ?_
 refine QL.v (fun wq hq => Y.lss_string rfl rfl) ?_
 refine QL.a rfl ?_
 refine QL.nil fun w3 hx3 => ?_
 have hM2 := hM2.ext hx3
 have hM3 := hM3.ext hx3
 refine hK6 _ _ ?_; try clear hK6
 refine CW.ret ⟨_, rfl, ?_⟩
 exact ⟨by simp [lessB, bs_toList], (hx1.thenExt hx2).thenExt hx3⟩
end Go.Proofs.YtfanmpbapabboaaDoor
/- strings.IndexByte's contract, laid by the shelf at this program, in plain words. No condition. -/
namespace Go.Proofs.YtfanmpbapabboaaDoor
open Go.Shelf
def lays137_ren : Go.Shelf.Ren := ⟨fun | 137 => 67 | 217 => 80 | 266 => 86 | n => n, fun | 9 => 9 | 5 => 5 | 3 => 3 | n => n, fun | n => n⟩
theorem lays137 : Go.Proofs.Lays.n137 Tryd.prog lays137_ren := {
 mixed := by kernel_rfl
 f137 := Tryd.func67.trans (congrArg some (by kernel_rfl))
 f217 := Tryd.func80.trans (congrArg some (by kernel_rfl))
 f266 := Tryd.func86.trans (congrArg some (by kernel_rfl))
 t3 := Tryd.underlying3
 a3 := Tryd.isAgg3
 z3 := Tryd.sizeOf3
 v3 := Tryd.zeroValue3
 t5 := Tryd.underlying5
 a5 := Tryd.isAgg5
 z5 := Tryd.sizeOf5
 v5 := Tryd.zeroValue5
 t9 := Tryd.underlying9
 a9 := Tryd.isAgg9
 z9 := Tryd.sizeOf9
 v9 := Tryd.zeroValue9 }
open Go.RowKit in
theorem strings_IndexByte (s : ByteArray) (c : Int) (w : World) :
  Calls Tryd.prog 67 #[.string s, .int .u8 c] w fun e w' => e = .returned (.int .i64 (Lib.indexByte s.data.toList c.toNat.toUInt8)) ∧ w' = w := Any.strings_IndexByte lays137 s c w
end Go.Proofs.YtfanmpbapabboaaDoor
/- Which texts are names: commit.Name and the reference's Name, walked; the reference's order of digests. No condition. -/
namespace Go.Proofs.YtfanmpbapabboaaDoor
open Go.RowKit Go.Fw Go.Pl
theorem rLess_any (a b : Dig) (w : World) : Calls Tryd.prog 20 #[digV a, digV b] w (Ret fun v w' => v = .bool (lessB a b) ∧ Ext w w') := by
 refine calls_of_CW 24 [4] [(0, digV a), (1, digV b)] Tryd.func20 rfl rfl rfl (by simp) args2 ?_
 refine CW.sr fun K1 hK1 => ?_
 refine WL.box rfl rfl de_ fun g2 w1 hx1 hg2 hB2 => ?_
 have hM2 := hB2.mem
 refine WL.box rfl rfl de_ fun g3 w2 hx2 hg3 hB3 => ?_
 have hM3 := hB3.mem; have hM2 := hM2.ext hx2
 refine WL.a rfl ?_
 refine WL.nil (hK1 _ _ ?_); try clear hK1
 refine CW.seq fun K2 hK2 => ?_
 refine CW.sr fun K3 hK3 => ?_
 refine WL.a rfl ?_
 refine WL.nil (hK3 _ _ ?_); try clear hK3
 refine CW.block ?_
 refine CW.loop (X := Nat) (fun x => [(2, .pointer (some ⟨g2, 0, none⟩)), (3, .pointer (some ⟨g3, 0, none⟩)), (5, .int .i64 (x : Int))]) (fun x w0 => x ≤ 32 ∧ a.1.take x = b.1.take x ∧ Ext w w0 ∧ Mem w0 ⟨g2, 0, none⟩ (digC a) ∧ Mem w0 ⟨g3, 0, none⟩ (digC b)) (fun x => 32 - x) 0 (Fr.le.cons rfl (Fr.le.cons rfl (Fr.le.cons rfl Fr.le.nil))) ⟨by omega, rfl, (hx1.thenExt hx2), hM2, hM3⟩ ?_
 intro x w3 hl3
 obtain ⟨hi, htk, hL3, hM2, hM3⟩ := hl3
 have ha := a.2
 have hb := b.2
 refine CW.seq fun K4 hK4 => ?_
 refine CW.sr fun K5 hK5 => ?_
 refine WL.m rfl ?_
 refine WL.v (Y.lss rfl rfl) ?_
 refine WL.nil (hK5 _ _ ?_); try clear hK5
 (first | refine cd_ rfl ?_ ?_ | refine ce_ rfl ?_ ?_ | refine cn_ rfl ?_ ?_ | refine cb_ rfl ?_ ?_) <;> intro ht6
 ·
  -- then
  refine CW.skip ?_
  refine hK4 _ _ ?_; try clear hK4
  refine CW.seq fun K7 hK7 => ?_
  refine CW.block ?_
  refine CW.seq fun K8 hK8 => ?_
  refine CW.quiet (fun wq => Ext w3 wq) kr_ kr_ Chg.drew ?_
  refine QL.m rfl ?_
  refine QL.v (fun wq hq => Y.indexAddrAN Tryd.underlying30 rfl rfl sz0_uint8 om_) ?_
  refine QL.v (fun wq hq => Y.load1 Tryd.underlying5 rfl ((hM2.ext hq).digAt (i := x) om_) rfl) ?_
  refine QL.m rfl ?_
  refine QL.v (fun wq hq => Y.indexAddrAN Tryd.underlying30 rfl rfl sz0_uint8 om_) ?_
  refine QL.v (fun wq hq => Y.load1 Tryd.underlying5 rfl ((hM3.ext hq).digAt (i := x) om_) rfl) ?_
  refine QL.v (fun wq hq => Y.neq rfl rfl) ?_
  refine QL.nil fun w4 hx4 => ?_
  have hM2 := hM2.ext hx4
  have hM3 := hM3.ext hx4
  refine hK8 _ _ ?_; try clear hK8
  (first | refine cd_ rfl ?_ ?_ | refine ce_ rfl ?_ ?_ | refine cn_ rfl ?_ ?_ | refine cb_ rfl ?_ ?_) <;> intro ht9
  ·
   -- then
   refine CW.seq fun K10 hK10 => ?_
   refine CW.quiet (fun wq => Ext w4 wq) kr_ kr_ Chg.drew ?_
   refine QL.m rfl ?_
   refine QL.v (fun wq hq => Y.indexAddrAN Tryd.underlying30 rfl rfl sz0_uint8 om_) ?_
   refine QL.v (fun wq hq => Y.load1 Tryd.underlying5 rfl ((hM2.ext hq).digAt (i := x) om_) rfl) ?_
   refine QL.m rfl ?_
   refine QL.v (fun wq hq => Y.indexAddrAN Tryd.underlying30 rfl rfl sz0_uint8 om_) ?_
   refine QL.v (fun wq hq => Y.load1 Tryd.underlying5 rfl ((hM3.ext hq).digAt (i := x) om_) rfl) ?_
   refine QL.v (fun wq hq => Y.lss rfl rfl) ?_
   refine QL.a rfl ?_
   refine QL.nil fun w5 hx5 => ?_
   have hM2 := hM2.ext hx5
   have hM3 := hM3.ext hx5
   refine hK10 _ _ ?_; try clear hK10
   refine CW.ret ⟨_, rfl, ?_⟩
   refine ⟨?_, ((hL3.thenExt hx4).thenExt hx5)⟩
   have := bytesLess_at (i := x) htk (List.getElem?_eq_getElem om_) (List.getElem?_eq_getElem om_) (fun e => ht9 (by rw [e]))
   rw [lessB, this]
   congr 1
   simp [UInt8.lt_iff_toNat_lt]
  refine CW.skip ?_
  refine hK7 _ _ ?_; try clear hK7
  refine CW.region ?_
  refine WL.m rfl ?_
  refine WL.v (Y.add rfl rfl o2_) ?_
  refine WL.a rfl ?_
  refine WL.nil ?_
  refine ⟨x + 1, by omega, (Fr.le.cons rfl (Fr.le.cons rfl (Fr.le.cons rfl Fr.le.nil))), by omega, ?_, (hL3.thenExt hx4), hM2, hM3⟩
  rw [take_succ (List.getElem?_eq_getElem om_), take_succ (List.getElem?_eq_getElem om_), htk]
  congr 2
  exact UInt8.toNat_inj.1 om_
 refine CW.exit ?_
 refine hK2 _ _ ?_; try clear hK2
 refine CW.sr fun K11 hK11 => ?_
 refine WL.a rfl ?_
 refine WL.nil (hK11 _ _ ?_); try clear hK11
 refine CW.ret ⟨_, rfl, ?_⟩
 refine ⟨?_, hL3⟩
 have : a = b := by
  apply Subtype.ext
  rw [← List.take_of_length_le (l := a.1) (i := x) om_, ← List.take_of_length_le (l := b.1) (i := x) om_, htk]
 simp [this, lessB, bytesLess_self]
theorem name_any (s : ByteArray) (w : World) (hs : s.size ≤ maxLen) : Calls Tryd.prog 57 #[.string s] w (Ret fun v w' => v = .bool (nameB s.toList) ∧ Ext w w') := by
 unfold maxLen at hs
 have hsl := toList_length s
 refine calls_of_CW 23 [2] [(0, .string s)] Tryd.func57 rfl rfl rfl (by simp) args1 ?_
 refine CW.sr fun K1 hK1 => ?_
 refine WL.a rfl ?_
 refine WL.nil (hK1 _ _ ?_); try clear hK1
 refine CW.seq fun K2 hK2 => ?_
 refine CW.sr fun K3 hK3 => ?_
 refine WL.m rfl ?_
 refine WL.v (Y.len_string Tryd.underlying9 rfl) ?_
 refine WL.m rfl ?_
 refine WL.nil (hK3 _ _ ?_); try clear hK3
 refine CW.block ?_
 refine CW.loop (X := Nat) (fun x => [(0, .string s), (5, .int .i64 (s.size : Int)), (6, .int .i64 (x : Int))]) (fun x w0 => x ≤ s.size ∧ (s.toList.take x).all letter = true ∧ Ext w w0) (fun x => s.size - x) 0 (Fr.le.cons rfl (Fr.le.cons rfl (Fr.le.cons rfl Fr.le.nil))) ⟨by omega, by simp, Chg.refl⟩ ?_
 intro x w1 hl1
 obtain ⟨hi, hall, hL1⟩ := hl1
 refine CW.sr fun K4 hK4 => ?_
 refine WL.v (Y.lss rfl rfl) ?_
 refine WL.nil (hK4 _ _ ?_); try clear hK4
 refine CW.seq fun K5 hK5 => ?_
 (first | refine cd_ rfl ?_ ?_ | refine ce_ rfl ?_ ?_ | refine cn_ rfl ?_ ?_ | refine cb_ rfl ?_ ?_) <;> intro ht6
 ·
  -- then
  refine CW.skip ?_
  refine hK5 _ _ ?_; try clear hK5
  refine CW.seq fun K7 hK7 => ?_
  refine CW.block ?_
  refine CW.sr fun K8 hK8 => ?_
  refine WL.m rfl ?_
  refine WL.a rfl ?_
  refine WL.nil (hK8 _ _ ?_); try clear hK8
  refine CW.sr fun K9 hK9 => ?_
  refine WL.m rfl ?_
  refine WL.m rfl ?_
  refine WL.v (Y.index_string Tryd.underlying9 rfl rfl om_) ?_
  refine WL.call Tryd.func67 rfl rfl rfl (ret_of (strings_IndexByte _ _ _)) (by simp) ?_; rintro v w2 ⟨rfl, hx2⟩
  refine WL.v (Y.lss rfl rfl) ?_
  refine WL.nil (hK9 _ _ ?_); try clear hK9
  (first | refine cd_ rfl ?_ ?_ | refine ce_ rfl ?_ ?_ | refine cn_ rfl ?_ ?_ | refine cb_ rfl ?_ ?_) <;> intro ht10
  ·
   -- then
   refine CW.sr fun K11 hK11 => ?_
   refine WL.a rfl ?_
   refine WL.nil (hK11 _ _ ?_); try clear hK11
   refine CW.ret ⟨_, rfl, ?_⟩
   refine ⟨?_, (hL1.thenExt hx2)⟩
   rw [nameB_no (get_toList (i := x) om_) ((letter_index _).1 (by have h := ht10; simp at h; exact h))]
  refine CW.skip ?_
  refine hK7 _ _ ?_; try clear hK7
  refine CW.region ?_
  refine WL.v (Y.add rfl rfl o2_) ?_
  refine WL.m rfl ?_
  refine WL.nil ?_
  refine ⟨x + 1, by omega, (Fr.le.cons rfl (Fr.le.cons rfl (Fr.le.cons rfl Fr.le.nil))), by omega, ?_, (hL1.thenExt hx2)⟩
  refine all_take_succ hall (get_toList om_) ?_
  have h := (not_congr (letter_index s[x])).1 (by have h := ht10; simp at h; exact Int.not_lt.2 h)
  simpa using h
 refine CW.exit ?_
 refine hK2 _ _ ?_; try clear hK2
 refine CW.sr fun K12 hK12 => ?_
 refine WL.m rfl ?_
 refine WL.v (Y.len_string Tryd.underlying9 rfl) ?_
 refine WL.v (Y.geq rfl rfl) ?_
 refine WL.m rfl ?_
 (first | refine WL.casesD (d := 18) rfl ?_ ?_ | refine WL.casesND (d := 18) rfl ?_ ?_ | refine WL.cases (d := 18) rfl ?_ ?_) <;> intro hg18
 ·
  -- t18 = T
  refine WL.g rfl rfl (Y.move rfl) ?_
  refine WL.g rfl rfl (Y.len_string Tryd.underlying9 rfl) ?_
  refine WL.g rfl rfl (Y.leq rfl rfl) ?_
  refine WL.v (Y.pick rfl rfl) ?_
  refine WL.a rfl ?_
  refine WL.nil (hK12 _ _ ?_); try clear hK12
  refine CW.ret ⟨_, rfl, ?_⟩
  exact ⟨by rw [nameB_end hall om_, hsl]; congr 1; rw [Bool.eq_iff_iff]; simp; omega, hL1⟩
 ·
  -- t18 = F
  refine WL.o rfl rfl ?_
  refine WL.o rfl rfl ?_
  refine WL.o rfl rfl ?_
  refine WL.v (Y.pick rfl rfl) ?_
  refine WL.a rfl ?_
  refine WL.nil (hK12 _ _ ?_); try clear hK12
  refine CW.ret ⟨_, rfl, ?_⟩
  exact ⟨by rw [nameB_end hall om_, hsl]; congr 1; rw [Bool.eq_iff_iff]; simp; omega, hL1⟩
end Go.Proofs.YtfanmpbapabboaaDoor
