/- Calls that may panic; results that lie in cells; stores and loads in held regions; slices of slices. No condition; no program. -/
import Derived.Test.YtoncdfpohdchgaaDoorAp
import Derived.ScopeJumps
set_option linter.unusedSimpArgs false
set_option linter.unusedVariables false
namespace Go.Fw
open Go.RowKit
section
variable {P : Program} {n : NN} {Φ : Exit → Fr → World → Prop} {fr : Fr} {w : World}
theorem WL.callOr {ops : Array Oper} {rest : List Oper} {dst : Option Nat} {f : FuncId} {args : List Operand} {tys : Array TypeId} {ty : TypeId} {pos : String} {aft : Array Edge} {vs : List Value} {fn : Func}
    {R : Value → World → Prop} {S : List PanicEntry → World → Prop}
    (hf : P.funcs[f]? = some fn) (hb : fn.body.isNone = false) (hn : (fn.name == "runtime.NumGoroutine") = false)
    (he : evs fr args = some vs) (hC : Calls P f vs.toArray w (RetOr R S)) (hd : ∀ d, dst = some d → d < n.1)
    (hp : ∀ ch w', S ch w' → Φ (.panic ch) fr w')
    (h : ∀ v w', R v w' → WL P ops n Φ rest (match dst with | some d => (d, v) :: fr | none => fr) w') :
    WL P ops n Φ (⟨dst, .call { callee := .value (.func f), args := args.toArray, argTypes := tys }, ty, pos, aft, none⟩ :: rest) fr w := fun a ha =>
  wpList_plain rfl fun K hK => by
    have hrun : (execOp a.eval ⟨dst, .call { callee := .value (.func f), args := args.toArray, argTypes := tys }, ty, pos, aft, none⟩).run P w = .ok (.enter f vs.toArray) w := by
      have := ha.evs he
      simp [execOp, resolve, invoke, Deferred.ofValue, Act.eval, this, run_callFunc hf hb hn]
    unfold Oper.wp
    rw [hrun]
    refine hC.mono fun e w' hr => ?_
    cases e with
    | returned v =>
      refine hK _ _ (h v w' hr _ ?_)
      cases dst with
      | none => exact ha
      | some d => exact ha.put (hd d rfl) v
    | panicked ch => exact ⟨fr, ha, hp ch w' hr⟩
    | outgrown => exact hr.elim
theorem WL.panicI {ops : Array Oper} {rest : List Oper} {x : Operand} {t : TypeId} {v : Value} {ty : TypeId} {pos : String} {aft : Array Edge} (hx : ev fr x = some (.iface t v)) (h : Φ (.panic [{ v := .iface t v, recovered := false }]) fr w) :
    WL P ops n Φ (⟨none, .panic x, ty, pos, aft, none⟩ :: rest) fr w := fun a ha =>
  wpList_plain rfl fun K hK => by
    have hrun : (execOp a.eval ⟨none, .panic x, ty, pos, aft, none⟩).run P w = .halt (.panic (.iface t v)) w := by
      simp [execOp, ha.ev hx, run_panic_iface]
    unfold Oper.wp
    rw [hrun]
    exact ⟨fr, ha, h⟩
theorem Y.nilCheck {x : Operand} {ty : TypeId} {a : Addr} (hx : ev fr x = some (.pointer (some a))) : Yw P n fr (.nilCheck x) ty w (.pointer (some a)) w := fun b o' ho _ ha => by
  simp [execOp, ho, ha.ev hx]
theorem Y.slice_sl {x lo hi : Operand} {t e ty : TypeId} {a : Addr} {m c k i j : Nat} {ki kj : IntKind} (hT : P.underlying t = some (.slice e)) (hx : ev fr x = some (.slice (some a) m c)) (hlo : ev fr lo = some (.int ki (i : Int))) (hhi : ev fr hi = some (.int kj (j : Int)))
    (hS : (P.info? e).map (·.size) = some k) (h1 : i ≤ j) (h2 : j ≤ c) : Yw P n fr (.slice t x (some lo) (some hi) none) ty w (.slice (some (if c = i then a else a.add (i * k))) (j - i) (c - i)) w := fun b o' ho _ ha => by
  have e1 : (0 : Int) ≤ (i : Int) := by omega
  have e2 : (0 : Int) ≤ (j : Int) := by omega
  simp [execOp, ho, ha.ev hx, ha.ev hlo, ha.ev hhi, Instr.sliceAt, Instr.slice, run_underlying hT, Instr.sliceBounds, Instr.sliceBound, asIntOf, e1, e2, h1, h2, fw_sizeOf hS]
  split <;> rfl
theorem Y.toArr {x : Operand} {t e ty : TypeId} {A : Option Addr} {m c k : Nat} (hT : P.underlying t = some (.array k e)) (hx : ev fr x = some (.slice A m c)) (h : k ≤ m) : Yw P n fr (.sliceToArrayPointer t x) ty w (.pointer A) w := fun b o' ho _ ha => by
  simp [execOp, ho, ha.ev hx, Instr.arrayAt, run_underlying hT, Nat.not_lt.2 h]

/-! ## Held regions -/
variable {ops : Array Oper} {S : World → Prop} {fuel : Nat} {listed : Array Bool}
theorem RS.val {i d : Nat} {o : Op} {ty : TypeId} {pos : String} {aft : Array Edge} {v : Value}
    (hi : ops[i]? = some ⟨some d, o, ty, pos, aft, none⟩) (hy : Yw P n fr o ty w v w) (hd : d < n.1)
    (h : S w ∧ RH P ops S n Φ fuel (listed.setIfInBounds i true) ((d, v) :: fr) w) : RS P ops S n Φ fuel listed i fr w := fun a ha => by
  have hr := hy a ⟨some d, o, ty, pos, aft, none⟩ rfl rfl ha
  unfold wpOp
  rw [hi]
  simp only [Region.wanted, if_true]
  refine .inl ?_
  unfold Oper.wp
  rw [hr]
  exact ⟨h.1, h.2 _ (ha.put hd v)⟩
theorem RS.callOr {i : Nat} {dst : Option Nat} {f : FuncId} {args : List Operand} {tys : Array TypeId} {ty : TypeId} {pos : String} {aft : Array Edge} {vs : List Value} {fn : Func} {R : Value → World → Prop} {T : List PanicEntry → World → Prop}
    (hi : ops[i]? = some ⟨dst, .call { callee := .value (.func f), args := args.toArray, argTypes := tys }, ty, pos, aft, none⟩)
    (hf : P.funcs[f]? = some fn) (hb : fn.body.isNone = false) (hn : (fn.name == "runtime.NumGoroutine") = false)
    (he : evs fr args = some vs) (hC : Calls P f vs.toArray w (RetOr R T)) (hd : ∀ d, dst = some d → d < n.1)
    (hp : ∀ ch w', T ch w' → Φ (.panic ch) fr w')
    (h : ∀ v w', R v w' → S w' ∧ RH P ops S n Φ fuel (listed.setIfInBounds i true) (match dst with | some d => (d, v) :: fr | none => fr) w') : RS P ops S n Φ fuel listed i fr w := fun a ha => by
  have hrun : (execOp a.eval ⟨dst, .call { callee := .value (.func f), args := args.toArray, argTypes := tys }, ty, pos, aft, none⟩).run P w = .ok (.enter f vs.toArray) w := by
    have := ha.evs he
    simp [execOp, resolve, invoke, Deferred.ofValue, Act.eval, this, run_callFunc hf hb hn]
  unfold wpOp
  rw [hi]
  simp only [Region.wanted, if_true]
  refine .inl ?_
  unfold Oper.wp
  rw [hrun]
  refine hC.mono fun e w' hr => ?_
  cases e with
  | returned v =>
    obtain ⟨h1, h2⟩ := h v w' hr
    refine ⟨h1, h2 _ ?_⟩
    cases dst with
    | none => exact ha
    | some d => exact ha.put (hd d rfl) v
  | panicked ch => exact ⟨fr, ha, hp ch w' hr⟩
  | outgrown => exact hr.elim
theorem RS.store {i : Nat} {t e : TypeId} {x y : Operand} {ty : TypeId} {pos : String} {aft : Array Edge} {v : Value} {g : Nat} {pre old post new : List Value} {A : Addr}
    (hi : ops[i]? = some ⟨none, .store t x y, ty, pos, aft, none⟩)
    (hx : ev fr x = some (.pointer (some A))) (hA : A = ⟨g, pre.length, none⟩) (hy : ev fr y = some v) (hv : v.cells = new.toArray) (hS : (P.info? t).map (·.size) = some new.length)
    (hb : Blk w g e (pre ++ old ++ post)) (hl : new.length = old.length) (h1 : ∀ u ∈ new, u.oneCell' = true)
    (h : ∀ w', Chg (· = g) w w' → Blk w' g e (pre ++ new ++ post) → S w' ∧ RH P ops S n Φ fuel (listed.setIfInBounds i true) fr w') : RS P ops S n Φ fuel listed i fr w := fun a ha => by
  obtain ⟨w', hst, hc, hb'⟩ := run_storeCells_blk (P := P) hb hl h1
  have hrun : (execOp a.eval ⟨none, .store t x y, ty, pos, aft, none⟩).run P w = .ok .skip w' := by
    simp [execOp, ha.ev hx, ha.ev hy, Instr.storeAt, Instr.sureAddr, storeVar, fw_sizeOf hS, hv, hA, hst]
  obtain ⟨h1, h2⟩ := h w' hc hb'
  unfold wpOp
  rw [hi]
  simp only [Region.wanted, if_true]
  refine .inl ?_
  unfold Oper.wp
  rw [hrun]
  exact ⟨h1, h2 _ ha⟩

/-! ## Results in cells -/
@[reducible] def DoneG (D : Fr → World → Prop) (S : List PanicEntry → World → Prop) : Exit → Fr → World → Prop
  | .normal, fr, w => D fr w
  | .ret, fr, w => D fr w
  | .panic ch, _, w => S ch w
  | _, _, _ => False
theorem calls_of_CWG {f : FuncId} {fn : Func} {c : Code} {args : List Value} {R : Value → World → Prop} {S : List PanicEntry → World → Prop} (m : Nat) (D : Fr → World → Prop) (fr0 : Fr)
    (hf : P.funcs[f]? = some fn) (hb : fn.body = some c) (hm : fn.ntmps = m) (hr : ∀ a fr w, Rep (m, [], none) a fr → D fr w → ∃ v, (results fn a.tmps).run P w = .ok v w ∧ R v w)
    (hsz : args.length ≤ m) (hargs : ∀ t v, fr0.get t = some v → args[t]? = some v)
    (h : CW P c (m, [], none) (DoneG D S) fr0 w) : Calls P f args.toArray w (RetOr R S) := by
  refine calls_of_wp hf hb ?_
  have hrep : Rep (m, [], none) { tmps := args.toArray ++ Array.replicate (fn.ntmps - args.toArray.size) undef, defers := [] } fr0 := by
    refine ⟨by simp [hm]; omega, rfl, fun t v hv => ?_⟩
    have h1 := hargs t v hv
    have hlt : t < args.length := (List.getElem?_eq_some_iff.1 h1).1
    simpa [Array.getElem?_append, hlt] using (List.getElem?_eq_some_iff.1 h1).2
  refine wp_mono ((CW.plain rfl).1 h _ hrep) ?_
  rintro e a' w' ⟨fr', hf', hp⟩
  cases e with
  | normal => obtain ⟨v, hv, hR⟩ := hr _ _ _ hf' hp; exact ⟨hf'.defers, v, hv, hR⟩
  | ret => obtain ⟨v, hv, hR⟩ := hr _ _ _ hf' hp; exact ⟨hf'.defers, v, hv, hR⟩
  | exit id => exact hp
  | goto l => exact hp
  | panic ch => exact ⟨hf'.defers, hp⟩
  | outgrown => exact hp.elim
/-- One result, in cells. -/
@[reducible] def Cell1 (t m : Nat) (R : Value → World → Prop) (fr : Fr) (w : World) : Prop := ∃ a cs, fr.get t = some (.pointer (some a)) ∧ Mem w a cs ∧ cs.length = m ∧ R (.agg cs.toArray) w
theorem res_cell {fn : Func} {a : Act} {t m : Nat} {ty : TypeId} {d : TypeDesc} {R : Value → World → Prop} (hr : fn.results = #[.cell t ty]) (hT : P.underlying ty = some d) (hd : notAgg d = false) (hS : (P.info? ty).map (·.size) = some m)
    {fr : Fr} {w : World} (ha : Rep n a fr) (hD : Cell1 t m R fr w) : ∃ v, (results fn a.tmps).run P w = .ok v w ∧ R v w := by
  obtain ⟨p, cs, hp, hm, hl, hR⟩ := hD
  have h1 := run_loadVarA (P := P) hT hd (by rw [hl]; exact hS) hm
  have e := ha.get t _ hp
  refine ⟨_, ?_, hR⟩
  simp [results, hr, e, asAddr, h1]
theorem calls_of_CWc_or {f : FuncId} {fn : Func} {c : Code} {args : List Value} {R : Value → World → Prop} {S : List PanicEntry → World → Prop} (m t k : Nat) (fr0 : Fr) {ty : TypeId} {d : TypeDesc}
    (hf : P.funcs[f]? = some fn) (hb : fn.body = some c) (hm : fn.ntmps = m) (hr : fn.results = #[.cell t ty]) (hT : P.underlying ty = some d) (hd : notAgg d = false) (hS : (P.info? ty).map (·.size) = some k)
    (hsz : args.length ≤ m) (hargs : ∀ t v, fr0.get t = some v → args[t]? = some v)
    (h : CW P c (m, [], none) (DoneG (Cell1 t k R) S) fr0 w) : Calls P f args.toArray w (RetOr R S) :=
  calls_of_CWG m _ fr0 hf hb hm (fun a fr w ha hD => res_cell hr hT hd hS ha hD) hsz hargs h
theorem calls_of_CWc {f : FuncId} {fn : Func} {c : Code} {args : List Value} {R : Value → World → Prop} (m t k : Nat) (fr0 : Fr) {ty : TypeId} {d : TypeDesc}
    (hf : P.funcs[f]? = some fn) (hb : fn.body = some c) (hm : fn.ntmps = m) (hr : fn.results = #[.cell t ty]) (hT : P.underlying ty = some d) (hd : notAgg d = false) (hS : (P.info? ty).map (·.size) = some k)
    (hsz : args.length ≤ m) (hargs : ∀ t v, fr0.get t = some v → args[t]? = some v)
    (h : CW P c (m, [], none) (DoneG (Cell1 t k R) (fun _ _ => False)) fr0 w) : Calls P f args.toArray w (Ret R) :=
  (calls_of_CWc_or m t k fr0 hf hb hm hr hT hd hS hsz hargs h).mono fun e w' he => by
    cases e with
    | returned v => exact he
    | panicked ch => exact he.elim
    | outgrown => exact he.elim
/-- A slice of bytes, whosever. -/
def By (w : World) (v : Value) (bs : List UInt8) : Prop := ∃ A m c, v = .slice A m c ∧ bs.length = m ∧ m ≤ c ∧ c ≤ maxLen ∧ (0 < m → ∃ a, A = some a ∧ Mem w a (bytesC bs)) ∧ (A = none → m = 0)
theorem By.chg {T : Nat → Prop} {w w' : World} {v : Value} {bs : List UInt8} (h : By w v bs) (hc : Chg T w w') (hs : bs ≠ [] → ∀ g, v.ownBlock = some g → ¬ T g) : By w' v bs := by
  obtain ⟨A, m, c, rfl, hl, hmc, hcm, hA, hn⟩ := h
  refine ⟨A, m, c, rfl, hl, hmc, hcm, fun h0 => ?_, hn⟩
  obtain ⟨a, rfl, hm⟩ := hA h0
  exact ⟨a, rfl, hm.chg hc (hs (by rintro rfl; simp at hl; omega) _ rfl)⟩
theorem By.ext {w w' : World} {v : Value} {bs : List UInt8} (h : By w v bs) (hc : Ext w w') : By w' v bs := h.chg hc fun _ _ _ f => f
theorem Own.by {e : TypeId} {v : Value} {bs : List UInt8} (h : Own w e 1 v (bytesC bs)) : By w v bs := by
  obtain ⟨A, m, c, rfl⟩ := h.lens
  obtain ⟨hm, hn, hl, hmc, hcm⟩ := h.mem A m c rfl
  rw [bytesC_length] at hl
  exact ⟨A, m, c, rfl, by omega, hmc, hcm, hm, hn⟩
end

/-! ## A scope with a label that is jumped back to -/
@[reducible] def jumpF (l : Nat) (J : Fr → World → Prop) (Φ : Exit → Fr → World → Prop) : Exit → Fr → World → Prop
  | .goto l', f, w => l' = l ∧ J f w
  | .normal, f, w => Φ .normal f w
  | .exit id, f, w => Φ (.exit id) f w
  | .ret, f, w => Φ .ret f w
  | .panic ch, f, w => Φ (.panic ch) f w
  | .outgrown, f, w => Φ .outgrown f w
theorem CW.scope {P : Program} {n : NN} {Φ : Exit → Fr → World → Prop} {fr : Fr} {w : World} {c tail : Code} {X : Type} (l : Nat) (g : X → Fr) (W : X → World → Prop) (μ : X → Nat) (hf : findLabel c l = some (.seq .skip tail))
    (T : ∀ x w, W x w → CW P tail n (jumpF l (fun f w => ∃ y, μ y < μ x ∧ Fr.le (g y) f ∧ W y w) Φ) (g x) w)
    (first : (∀ f w x, Fr.le (g x) f → W x w → CW P (.seq (.label l) tail) n (jumpF l (fun f w => ∃ y, Fr.le (g y) f ∧ W y w) Φ) f w) → CW P c n (jumpF l (fun f w => ∃ y, Fr.le (g y) f ∧ W y w) Φ) fr w) (hn0 : n.2.2 = none := by rfl) : CW P (.scope c) n Φ fr w := by
  have hT : ∀ f w x, Fr.le (g x) f → W x w → CW P tail n (jumpF l (fun f w => ∃ y, Fr.le (g y) f ∧ W y w) Φ) f w := fun f w x hl hw =>
    CW.weaken hl (CW.mono (T x w hw) fun e f w hp => by
      cases e with
      | goto l' => obtain ⟨h1, y, _, h2⟩ := hp; exact ⟨h1, y, h2⟩
      | _ => exact hp)
  have hT' : ∀ f w x, Fr.le (g x) f → W x w → CW P (.seq (.label l) tail) n (jumpF l (fun f w => ∃ y, Fr.le (g y) f ∧ W y w) Φ) f w := fun f w x hl hw =>
    CW.seq fun K hK => CW.label (hK _ _ (hT f w x hl hw))
  refine (CW.plain hn0).2 fun a ha => ?_
  intro b k cs
  have hg : gotoIn l (.inScope c :: k) = some (.code (.seq .skip tail) :: .inScope c :: k) := by simp [gotoIn, hf]
  have key : ∀ m x a w, μ x = m → Rep n a (g x) → W x w → ∃ e a' w', lift n Φ e a' w' ∧ Arrives P (lone (b.at a (.code (.seq .skip tail) :: .inScope c :: k)) cs w) b k cs e a' w' := by
    intro m
    induction m using Nat.strongRecOn with
    | _ m ih =>
      intro x a w hn hr hW
      have hs : CW P (.seq .skip tail) n (jumpF l (fun f w => ∃ y, μ y < μ x ∧ Fr.le (g y) f ∧ W y w) Φ) (g x) w := CW.seq fun K hK => CW.skip (hK _ _ (T x w hW))
      obtain ⟨e, a₁, w₁, ⟨f, hf1, hp⟩, harr⟩ := (CW.plain hn0).1 hs a hr b (.inScope c :: k) cs
      cases e with
      | normal => exact ⟨.normal, a₁, w₁, ⟨f, hf1, hp⟩, Steps.trans harr (.one step_inScope)⟩
      | exit id => exact ⟨.exit id, a₁, w₁, ⟨f, hf1, hp⟩, fun k' hk => harr k' (by simp [exitTo, hk])⟩
      | goto l' =>
        obtain ⟨rfl, y, hlt, hl, hW'⟩ := hp
        obtain ⟨e₂, a₂, w₂, hq₂, harr₂⟩ := ih _ (hn ▸ hlt) y a₁ w₁ rfl (hf1.weaken hl) hW'
        exact ⟨e₂, a₂, w₂, hq₂, .of_steps (harr _ hg) harr₂⟩
      | ret => exact ⟨_, a₁, w₁, ⟨f, hf1, hp⟩, harr⟩
      | panic ch => exact ⟨_, a₁, w₁, ⟨f, hf1, hp⟩, harr⟩
      | outgrown => exact ⟨_, a₁, w₁, ⟨f, hf1, hp⟩, harr⟩
  obtain ⟨e, a₁, w₁, ⟨f, hf1, hp⟩, harr⟩ := (CW.plain hn0).1 (first hT') a ha b (.inScope c :: k) cs
  cases e with
  | normal => exact ⟨.normal, a₁, w₁, ⟨f, hf1, hp⟩, .head step_scope (Steps.trans harr (.one step_inScope))⟩
  | exit id => exact ⟨.exit id, a₁, w₁, ⟨f, hf1, hp⟩, fun k' hk => .head step_scope (harr k' (by simp [exitTo, hk]))⟩
  | goto l' =>
    obtain ⟨rfl, y, hl, hW'⟩ := hp
    obtain ⟨e₂, a₂, w₂, hq₂, harr₂⟩ := key _ y a₁ w₁ rfl (hf1.weaken hl) hW'
    exact ⟨e₂, a₂, w₂, hq₂, .of_steps (.head step_scope (harr _ hg)) harr₂⟩
  | ret => exact ⟨_, a₁, w₁, ⟨f, hf1, hp⟩, .of_steps (.one step_scope) harr⟩
  | panic ch => exact ⟨_, a₁, w₁, ⟨f, hf1, hp⟩, .of_steps (.one step_scope) harr⟩
  | outgrown => exact ⟨_, a₁, w₁, ⟨f, hf1, hp⟩, .of_steps (.one step_scope) harr⟩
section
variable {P : Program} {n : NN} {fr : Fr} {w : World} {ty : TypeId}
theorem Y.and_k {x y : Operand} {k : IntKind} {p q : Int} {t t' : TypeId} {r : Int} (hx : ev fr x = some (.int k p)) (hy : ev fr y = some (.int k q)) (hr : k.wrap ((BitVec.ofInt k.bits p &&& BitVec.ofInt k.bits q).toNat : Int) = r) : Yw P n fr (.binOp .and t x y t') ty w (.int k r) w :=
  Y.bin hx hy (by simp [eqGuard_at_int]) (by
    have e : binOp .and t (.int k p) (.int k q) = pure (.int k r) := by simp only [binOp, ne_eq, not_true_eq_false, if_false, Op.intBits, hr]
    rw [e]; rfl)
theorem Y.shl {x y : Operand} {k k' : IntKind} {p q r : Int} {t t' : TypeId} (hx : ev fr x = some (.int k p)) (hy : ev fr y = some (.int k' q)) (hq : 0 ≤ q) (hr : k.wrap (p * (2 ^ (min q.toNat k.bits))) = r) : Yw P n fr (.binOp .shl t x y t') ty w (.int k r) w :=
  Y.bin hx hy (by simp [eqGuard_at_int]) (by simp [binOp, Op.shift, Int.not_lt.2 hq, hr])
end
theorem and127 (b : UInt8) : IntKind.u8.wrap ((BitVec.ofInt IntKind.u8.bits (b.toNat : Int) &&& BitVec.ofInt IntKind.u8.bits 127).toNat : Int) = ((b.toNat % 128 : Nat) : Int) := by
  have h : ∀ m, m < 256 → IntKind.u8.wrap ((BitVec.ofInt IntKind.u8.bits ((m : Nat) : Int) &&& BitVec.ofInt IntKind.u8.bits 127).toNat : Int) = ((m % 128 : Nat) : Int) := by decide +kernel
  exact h _ b.toNat_lt
theorem wrap_nat {n : Nat} (h : n < 9223372036854775808) : IntKind.i64.wrap (n : Int) = (n : Int) := IntWalk.i64_in _ ⟨by omega, by omega⟩
theorem toNat_of {n : Nat} (h : n < 18446744073709551616) : (BitVec.ofInt 64 (n : Int)).toNat = n := by
  rw [BitVec.toNat_ofInt]; omega
theorem pow7 (i : Nat) : 2 ^ (7 * i) = 128 ^ i := by rw [Nat.pow_mul]
theorem p128 {i : Nat} (h : i ≤ 8) : 128 ^ i ≤ 72057594037927936 := by
  have := Nat.pow_le_pow_right (n := 128) (by decide) h
  simpa using this
theorem low_high {s y i : Nat} (hs : s < 128 ^ i) (hy : y < 128) (hi : i ≤ 8) : s + y * 128 ^ i < 128 ^ (i + 1) ∧ s + y * 128 ^ i < 9223372036854775808 := by
  have h1 : s + y * 128 ^ i < 128 ^ (i + 1) := by
    have := Nat.mul_le_mul_right (128 ^ i) (Nat.le_sub_one_of_lt hy)
    rw [Nat.pow_succ]; omega
  refine ⟨h1, Nat.lt_of_lt_of_le h1 ?_⟩
  have := Nat.pow_le_pow_right (n := 128) (by decide) (Nat.add_le_add_right hi 1)
  simpa using this
theorem shl_at {y i : Nat} (hy : y < 128) (hi : i ≤ 8) : IntKind.i64.wrap ((y : Int) * (2 ^ (min (7 * (i : Int)).toNat IntKind.i64.bits))) = ((y * 128 ^ i : Nat) : Int) := by
  have e : min (7 * (i : Int)).toNat IntKind.i64.bits = 7 * i := by show min _ 64 = _; omega
  have h := (low_high (s := 0) (Nat.pow_pos (by decide)) hy hi).2
  have e2 : (y : Int) * (2 ^ (7 * i)) = ((y * 128 ^ i : Nat) : Int) := by rw [← pow7]; simp
  rw [e, e2, wrap_nat (by omega)]
theorem or_at {s y i : Nat} (hs : s < 128 ^ i) (hy : y < 128) (hi : i ≤ 8) : IntKind.i64.wrap ((BitVec.ofInt IntKind.i64.bits (s : Int) ||| BitVec.ofInt IntKind.i64.bits ((y * 128 ^ i : Nat) : Int)).toNat : Int) = ((s + y * 128 ^ i : Nat) : Int) := by
  have h := (low_high hs hy hi).2
  show IntKind.i64.wrap ((BitVec.ofInt 64 (s : Int) ||| BitVec.ofInt 64 ((y * 128 ^ i : Nat) : Int)).toNat : Int) = _
  rw [BitVec.toNat_or, toNat_of (by omega), toNat_of (by omega)]
  have e : s ||| y * 128 ^ i = s + y * 128 ^ i := by
    rw [← pow7] at hs ⊢
    have := Nat.two_pow_add_eq_or_of_lt hs y
    rw [Nat.or_comm, Nat.mul_comm, ← this, Nat.add_comm]
  rw [e, wrap_nat h]
theorem Y.conv_nat {P : Program} {n : NN} {fr : Fr} {w : World} {ty : TypeId} {x : Operand} {k : IntKind} {m : Nat} {s d : TypeId} {ds : TypeDesc} (hs : P.underlying s = some ds) (hd : P.underlying d = some (.int .i64)) (hx : ev fr x = some (.int k (m : Int))) (h : m < 9223372036854775808) :
    Yw P n fr (.convert s d x) ty w (.int .i64 (m : Int)) w := by
  have := Y.conv_int (n := n) (w := w) (ty := ty) hs hd hx
  rwa [wrap_nat h] at this
theorem Mem.byteAt {w : World} {a : Addr} {bs : List UInt8} {j : Nat} {b : UInt8} {z : Int} (h : Mem w a (bytesC bs)) (hb : bs[j]? = some b) (hz : z = (j : Int)) : w.cell? (a.add (z.toNat * 1)) = some (.int .u8 (b.toNat : Int)) := by
  subst hz
  rw [Int.toNat_natCast, Nat.mul_one]
  exact h j _ (bytesC_get hb)
theorem Y.slice_slI {P : Program} {n : NN} {fr : Fr} {w : World} {x lo hi : Operand} {t e ty : TypeId} {a : Addr} {m c k i j : Nat} {ki kj : IntKind} {zi zj : Int} (hT : P.underlying t = some (.slice e)) (hx : ev fr x = some (.slice (some a) m c)) (hlo : ev fr lo = some (.int ki zi)) (hhi : ev fr hi = some (.int kj zj))
    (hS : (P.info? e).map (·.size) = some k) (hi' : zi = (i : Int)) (hj' : zj = (j : Int)) (h1 : i ≤ j) (h2 : j ≤ c) : Yw P n fr (.slice t x (some lo) (some hi) none) ty w (.slice (some (if c = i then a else a.add (i * k))) (j - i) (c - i)) w := by
  subst hi'; subst hj'; exact Y.slice_sl hT hx hlo hhi hS h1 h2
section place
variable {w : World} {a : Addr} {bv pv ov : Value} {at_ : Int} {rest : List Value} {au no : ByteArray}
theorem Mem.place0 (h : Mem w a (bv :: .int .i64 at_ :: rest)) : w.cell? (a.add 0) = some bv := h.cell 0 rfl
theorem Mem.place1 (h : Mem w a (bv :: .int .i64 at_ :: rest)) : w.cell? (a.add 1) = some (.int .i64 at_) := h.cell 1 rfl
/-- A reader's cells. -/
def rdC (bv : Value) (at_ : Int) (pv : Value) (au no : ByteArray) (ov : Value) : List Value := bv :: .int .i64 at_ :: comC pv au no ov
theorem Mem.reader0 (h : Mem w a (rdC bv at_ pv au no ov)) : Mem w (a.add 0) (rdC bv at_ pv au no ov) := by rw [show a.add 0 = a by simp [Addr.add]]; exact h
theorem Mem.reader1 (h : Mem w a (rdC bv at_ pv au no ov)) : Mem w (a.add 2) (comC pv au no ov) := h.sub 2 fun j v hj => by
  rw [Nat.add_comm]; exact hj
end place
end Go.Fw
namespace Go.Fw
open Go.RowKit
theorem By.slMem {w : World} {a : Addr} {m c i j : Nat} {bs : List UInt8} (h : Mem w a (bytesC bs)) (hl : bs.length = m) (hc : m ≤ c) (h1 : i < j) (h2 : j ≤ m) : Mem w (if c = i then a else a.add (i * 1)) (bytesC ((bs.drop i).take (j - i))) := by
  rw [if_neg (by omega), Nat.mul_one]
  refine h.sub i fun k v hk => ?_
  rw [bytesC, List.getElem?_map] at hk ⊢
  rw [List.getElem?_take] at hk
  split at hk
  · rwa [List.getElem?_drop] at hk
  · cases hk
end Go.Fw
