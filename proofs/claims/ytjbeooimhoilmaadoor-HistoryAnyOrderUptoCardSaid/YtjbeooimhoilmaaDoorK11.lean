/- Parts of a proof: what its last text leans on. No condition. -/
import Derived.RangeFuncSeq
import Derived.Test.YtjbeooimhoilmaaDoorK02
import Derived.Test.YtjbeooimhoilmaaDoorK03
set_option linter.unusedSimpArgs false
set_option linter.unusedVariables false
/- Ranges over functions: regions with a call of yield, what an iterator promises, the statement, a function that holds one. No condition; no program. -/
namespace Go.Fw
open Go.RowKit
def HL (P : Program) (ops : Array Oper) (w : World) (n : NN) (Ψ : Fr → Prop) (l : List Oper) (fr : Fr) : Prop :=
  ∀ a, Rep n a fr → wpStill P ops w (fun a' => ∃ f, Rep n a' f ∧ Ψ f) l a
def WI (P : Program) (ops : Array Oper) (n : NN) (Φ : Exit → Fr → World → Prop) (l : List Oper) (fr : Fr) (w : World) : Prop :=
  ∀ a, Rep n a fr → wpListIn (FX n.2.2) 0 P ops (lift n Φ) l a w
theorem roundIn_FX {rd : Option Nat} {k l : Nat} {P : Program} {f : FuncId} {tmps : Array Value} {assign body : Code} {w : World} {R : Ending → World → Prop} (h : RoundIn (FX none) 0 P l f tmps assign body w R) : RoundIn (FX rd) k P l f tmps assign body w R :=
  ⟨trivial, fun c cs _ => h.2 c cs (room_FX _)⟩
section
variable {P : Program} {n : NN} {Φ : Exit → Fr → World → Prop} {fr : Fr} {w : World} {ops : Array Oper} {rest : List Oper} {Ψ : Fr → Prop}
theorem HL.nil (h : Ψ fr) : HL P ops w n Ψ [] fr := fun _ ha => ⟨fr, ha, h⟩
theorem HL.val {d : Nat} {o : Op} {ty : TypeId} {pos : String} {aft : Array Edge} {v : Value} (hy : Yw P n fr o ty w v w) (hd : d < n.1) (h : HL P ops w n Ψ rest ((d, v) :: fr)) :
    HL P ops w n Ψ (⟨some d, o, ty, pos, aft, none⟩ :: rest) fr := fun a ha =>
  wpStill_step fun K hK => by
    rw [if_pos (by simp [Region.wanted])]
    unfold Oper.still
    rw [hy a _ rfl rfl ha]
    exact ⟨rfl, hK _ (h _ (ha.put hd v))⟩
theorem HL.gval {d j dj : Nat} {b : Bool} {o : Op} {ty : TypeId} {pos : String} {aft : Array Edge} {v : Value}
    (hj : (ops[j]?).bind (·.dst) = some dj) (hg : fr.get dj = some (.bool b)) (hy : Yw P n fr o ty w v w) (hd : d < n.1) (h : HL P ops w n Ψ rest ((d, v) :: fr)) :
    HL P ops w n Ψ (⟨some d, o, ty, pos, aft, some (j, b)⟩ :: rest) fr := fun a ha =>
  wpStill_step fun K hK => by
    rw [if_pos (by simp [Region.wanted, yielded_eq ha hj hg])]
    unfold Oper.still
    rw [hy a _ rfl rfl ha]
    exact ⟨rfl, hK _ (h _ (ha.put hd v))⟩
theorem HL.goff {d j dj : Nat} {b : Bool} {o : Op} {ty : TypeId} {pos : String} {aft : Array Edge}
    (hj : (ops[j]?).bind (·.dst) = some dj) (hg : fr.get dj = some (.bool (!b))) (hd : d < n.1) (h : HL P ops w n Ψ rest ((d, undef) :: fr)) :
    HL P ops w n Ψ (⟨some d, o, ty, pos, aft, some (j, b)⟩ :: rest) fr := fun a ha =>
  wpStill_step fun K hK => by
    rw [if_neg (by simp [Region.wanted, yielded_eq ha hj hg])]
    exact hK _ (h _ (ha.put hd undef))
theorem HL.goffU {d j dj : Nat} {b : Bool} {o : Op} {ty : TypeId} {pos : String} {aft : Array Edge}
    (hj : (ops[j]?).bind (·.dst) = some dj) (hg : fr.get dj = some undef) (hd : d < n.1) (h : HL P ops w n Ψ rest ((d, undef) :: fr)) :
    HL P ops w n Ψ (⟨some d, o, ty, pos, aft, some (j, b)⟩ :: rest) fr := fun a ha =>
  wpStill_step fun K hK => by
    rw [if_neg (by simp [Region.wanted, yielded_undef ha hj hg])]
    exact hK _ (h _ (ha.put hd undef))
theorem HL.cases {l : List Oper} {d : Nat} {c : Bool} (hg : fr.get d = some (.bool c))
    (ht : c = true → HL P ops w n Ψ l ((d, .bool true) :: fr)) (hf : c = false → HL P ops w n Ψ l ((d, .bool false) :: fr)) : HL P ops w n Ψ l fr := by
  intro a ha
  cases c with
  | true => exact ht rfl a (ha.weaken (Fr.le.cons hg Fr.le.refl))
  | false => exact hf rfl a (ha.weaken (Fr.le.cons hg Fr.le.refl))
theorem HL.casesD {l : List Oper} {d : Nat} {p : Prop} {inst : Decidable p} (hg : fr.get d = some (.bool (@decide p inst)))
    (ht : p → HL P ops w n Ψ l ((d, .bool true) :: fr)) (hf : ¬ p → HL P ops w n Ψ l ((d, .bool false) :: fr)) : HL P ops w n Ψ l fr :=
  HL.cases hg (fun h => ht (@of_decide_eq_true p inst h)) (fun h => hf (@of_decide_eq_false p inst h))
theorem HL.casesND {l : List Oper} {d : Nat} {p : Prop} {inst : Decidable p} (hg : fr.get d = some (.bool (!@decide p inst)))
    (ht : ¬ p → HL P ops w n Ψ l ((d, .bool true) :: fr)) (hf : p → HL P ops w n Ψ l ((d, .bool false) :: fr)) : HL P ops w n Ψ l fr :=
  HL.cases hg (fun h => ht (@of_decide_eq_false p inst (by simpa using h))) (fun h => hf (@of_decide_eq_true p inst (by simpa using h)))
theorem WI.nil (h : Φ .normal fr w) : WI P ops n Φ [] fr w := fun _ ha => wpListIn_nil ⟨fr, ha, h⟩
theorem WI.val {d : Nat} {o : Op} {ty : TypeId} {pos : String} {aft : Array Edge} {v : Value} {w' : World}
    (hy : Yw P n fr o ty w v w') (hd : d < n.1) (h : WI P ops n Φ rest ((d, v) :: fr) w') (hnd : ∀ c, o ≠ .defer c := by intro c h; cases h) : WI P ops n Φ (⟨some d, o, ty, pos, aft, none⟩ :: rest) fr w := fun a ha => by
  unfold wpListIn
  rw [if_pos (by simp [Region.wanted])]
  refine wpIn_of_wp hnd ?_
  unfold Oper.wp
  rw [hy a _ rfl rfl ha]
  exact h _ (ha.put hd v)
theorem WI.yield {d t l : Nat} {args : List Operand} {tys : Array TypeId} {ty : TypeId} {pos : String} {aft : Array Edge} {vs : List Value} {R : Bool → World → Prop}
    (ht : fr.get t = some (.func (.yield l) #[] #[])) (he : evs fr args = some vs) (hY : YieldAt (FX none) 0 P l vs.toArray w (fun e w' => ∃ b, e = .returned (.bool b) ∧ R b w')) (hd : d < n.1)
    (h : ∀ b w', R b w' → WI P ops n Φ rest ((d, .bool b) :: fr) w') : WI P ops n Φ (⟨some d, .call { callee := .value (.tmp t), args := args.toArray, argTypes := tys }, ty, pos, aft, none⟩ :: rest) fr w := fun a ha => by
  unfold wpListIn
  rw [if_pos (by simp [Region.wanted])]
  obtain ⟨fn, tmps, assign, body, hy, hR⟩ := hY
  have hrun : (execOp a.eval ⟨some d, .call { callee := .value (.tmp t), args := args.toArray, argTypes := tys }, ty, pos, aft, none⟩).run P w = .ok (.round l fn tmps assign body) w := by
    have h1 := ha.evs he
    have h2 : a.eval (.tmp t) = .func (.yield l) #[] #[] := ha.ev (x := .tmp t) ht
    simp [execOp, resolve, invoke, Deferred.ofValue, h2, h1, hy]
  refine ⟨fun _ _ => trivial, ?_⟩
  rw [Oper.semAt_eq _ _ _ (by intro c hc; cases hc), hrun]
  refine ⟨fun hx => by simp [FX] at hx, (roundIn_FX hR).mono fun e w' he => ?_⟩
  obtain ⟨b, rfl, hb⟩ := he
  exact h b w' hb _ (ha.put hd _)
theorem CW.regionI {id : Nat} {l : List Oper} (h : WI P l.toArray n Φ l fr w) : CW P (.region id l.toArray false) n Φ fr w := fun a ha => wpIn_region_lit (h a ha)
theorem CW.head {id : Nat} {l : List Oper} (k : Nat) (hm : P.follows .mixedOrders = true) (hB : Region.lexTailB .any l.toArray k = true)
    (h : ∀ w', Ext w w' → HL P l.toArray w' n (fun f => WL P l.toArray n Φ (l.drop k) f w') (l.take k) fr) (hR : Tame n l Φ := by first | exact .inl rfl | exact .inr ⟨rfl, fun _ _ h => h⟩) : CW P (.region id l.toArray true) n Φ fr w := fun a ha => by
  have h := h w.drew Chg.drew a ha
  simp only [Region.lexTailB, Bool.and_eq_true, decide_eq_true_eq] at hB
  obtain ⟨⟨⟨⟨hsel, hn⟩, hs⟩, hc⟩, hlex⟩ := hB
  have hn' : k < l.length := by simpa using hn
  have htl : (l.take k).length = k := by simp; omega
  have hdl : (l.drop k).length = l.toArray.size - k := by simp
  have inv0 : HeadInv .any l.toArray k (Array.replicate l.toArray.size false) :=
    ⟨by simp, fun j oj _ hl => (by rw [getD_replicate_false] at hl; cases hl), fun t _ ht => getD_in (by simpa using ht) (getD_replicate_false _ _)⟩
  have H := wpAnyL_lex (md := .any) (g := l.toArray.size - k) hsel hs hc hn (l.take k) 0 _ a (fun j hj => by
    have hj' : j < k := by rw [htl] at hj; exact hj
    simp [hj']) (by simpa using htl) inv0 (by rw [htl]; exact hlex) h
  refine region_any hR hm ?_
  have := wpAny_of_head (Q' := lift n Φ) (g := l.toArray.size - k) (fun listed a' hL => by
    obtain ⟨f, hf, hW⟩ := hL.2
    have := wpAny_of_seq (md := .any) (Q' := lift n Φ) (l.drop k) k listed a' w.drew (fun j => by simp [List.getElem?_drop]) (by rw [hdl]; exact hL.1) (hW a' hf)
    rwa [hdl] at this) _ _ _ H
  rw [htl, show k + (l.toArray.size - k) = l.toArray.size by omega] at this
  exact this
end
def liftN (m : Nat) (rd : Option Nat) (Φ : Exit → List Deferred → Fr → World → Prop) : Exit → Act → World → Prop := fun e a w => ∃ ds fr, Rep (m, ds, rd) a fr ∧ Φ e ds fr w
def CN (P : Program) (c : Code) (m : Nat) (rd : Option Nat) (ds : List Deferred) (Φ : Exit → List Deferred → Fr → World → Prop) (fr : Fr) (w : World) : Prop := ∀ a, Rep (m, ds, rd) a fr → c.wpIn (FX rd) 0 P (liftN m rd Φ) a w
@[reducible] def thenN (K : List Deferred → Fr → World → Prop) (Φ : Exit → List Deferred → Fr → World → Prop) : Exit → List Deferred → Fr → World → Prop
  | .normal, ds, f, w => K ds f w
  | e, ds, f, w => Φ e ds f w
@[reducible] def blockN (id : Nat) (Φ : Exit → List Deferred → Fr → World → Prop) : Exit → List Deferred → Fr → World → Prop
  | .exit id', ds, f, w => if id' = id then Φ .normal ds f w else Φ (.exit id') ds f w
  | e, ds, f, w => Φ e ds f w
section
variable {P : Program} {m : Nat} {rd : Option Nat} {ds : List Deferred} {Φ : Exit → List Deferred → Fr → World → Prop} {fr : Fr} {w : World}
theorem CN.of_CW {c : Code} (h : CW P c (m, ds, rd) (fun e f w => Φ e ds f w) fr w) : CN P c m rd ds Φ fr w := fun a ha => wpIn_mono (h a ha) fun _ _ _ ⟨f, hf, hp⟩ => ⟨ds, f, hf, hp⟩
theorem CN.weaken {c : Code} {g : Fr} (hl : Fr.le g fr) (h : CN P c m rd ds Φ g w) : CN P c m rd ds Φ fr w := fun a ha => h a (ha.weaken hl)
theorem CN.seq {x y : Code} (h : ∀ K : List Deferred → Fr → World → Prop, (∀ ds f w, CN P y m rd ds Φ f w → K ds f w) → CN P x m rd ds (thenN K Φ) fr w) : CN P (.seq x y) m rd ds Φ fr w := by
  intro a ha
  refine wpIn_seq (wpIn_mono (h (fun ds f w => CN P y m rd ds Φ f w) (fun _ _ _ h => h) a ha) ?_)
  rintro e a' w' ⟨ds', f, hf, hp⟩
  cases e <;> first | exact hp a' hf | exact ⟨ds', f, hf, hp⟩
theorem CN.skip (h : Φ .normal ds fr w) : CN P .skip m rd ds Φ fr w := fun _ ha => wpIn_skip ⟨ds, fr, ha, h⟩
theorem CN.ret (h : Φ .ret ds fr w) : CN P .ret m rd ds Φ fr w := fun _ ha => wpIn_ret ⟨ds, fr, ha, h⟩
theorem CN.exit {id : Nat} (h : Φ (.exit id) ds fr w) : CN P (.exit id) m rd ds Φ fr w := fun _ ha => wpIn_exit ⟨ds, fr, ha, h⟩
theorem CN.cond {c : Operand} {x y : Code} {t : Bool} (hc : ev fr c = some (.bool t)) (ht : t = true → CN P x m rd ds Φ fr w) (hf : t = false → CN P y m rd ds Φ fr w) :
    CN P (.cond c x y) m rd ds Φ fr w := fun a ha => wpIn_cond_split (ha.ev hc) (fun h => ht h a ha) (fun h => hf h a ha)
theorem CN.condD {c : Operand} {x y : Code} {p : Prop} {inst : Decidable p} (hc : ev fr c = some (.bool (@decide p inst))) (ht : p → CN P x m rd ds Φ fr w) (hf : ¬ p → CN P y m rd ds Φ fr w) :
    CN P (.cond c x y) m rd ds Φ fr w := CN.cond hc (fun h => ht (@of_decide_eq_true p inst h)) (fun h => hf (@of_decide_eq_false p inst h))
theorem CN.condND {c : Operand} {x y : Code} {p : Prop} {inst : Decidable p} (hc : ev fr c = some (.bool (!@decide p inst))) (ht : ¬ p → CN P x m rd ds Φ fr w) (hf : p → CN P y m rd ds Φ fr w) :
    CN P (.cond c x y) m rd ds Φ fr w := CN.cond hc (fun h => ht (@of_decide_eq_false p inst (by simpa using h))) (fun h => hf (@of_decide_eq_true p inst (by simpa using h)))
theorem CN.condN {c : Operand} {x y : Code} {b : Bool} (hc : ev fr c = some (.bool (!b))) (ht : b = false → CN P x m rd ds Φ fr w) (hf : b = true → CN P y m rd ds Φ fr w) :
    CN P (.cond c x y) m rd ds Φ fr w := CN.cond hc (fun h => ht (by simpa using h)) (fun h => hf (by simpa using h))
theorem CN.block {id : Nat} {c : Code} (h : CN P c m rd ds (blockN id Φ) fr w) : CN P (.block id c) m rd ds Φ fr w := by
  intro a ha
  refine wpIn_block (wpIn_mono (h a ha) ?_)
  rintro e a' w' ⟨ds', f, hf, hp⟩
  cases e with
  | exit id' =>
    simp only [blockN] at hp
    simp only [Exit.inBlock]
    split at hp <;> rename_i hid
    · rw [if_pos hid]; exact ⟨ds', f, hf, hp⟩
    · rw [if_neg hid]; exact ⟨ds', f, hf, hp⟩
  | normal => exact ⟨ds', f, hf, hp⟩
  | goto l => exact ⟨ds', f, hf, hp⟩
  | ret => exact ⟨ds', f, hf, hp⟩
  | panic c => exact ⟨ds', f, hf, hp⟩
  | outgrown => exact ⟨ds', f, hf, hp⟩
theorem CN.seq_to {x y : Code} {X : Type} (g : X → Fr) (W : X → World → Prop)
    (h1 : CW P x (m, ds, rd) (thenF (fun f w' => ∃ u, Fr.le (g u) f ∧ W u w') (fun e f w => Φ e ds f w)) fr w) (h2 : ∀ u w', W u w' → CN P y m rd ds Φ (g u) w') : CN P (.seq x y) m rd ds Φ fr w :=
  CN.seq fun K hK => CN.of_CW (CW.mono h1 fun e f w' hp => by
    cases e with
    | normal => obtain ⟨u, hl, hw⟩ := hp; exact hK _ _ _ (CN.weaken hl (h2 u w' hw))
    | _ => exact hp)
end
theorem CN.seq_testW {P : Program} {m : Nat} {rd : Option Nat} {ds : List Deferred} {Φ : Exit → List Deferred → Fr → World → Prop} {fr : Fr} {w : World} {x y : Code} (W : World → World → Prop) (T : Nat) (Q : Prop)
    (h1 : CW P x (m, ds, rd) (thenF (fun f w' => (∃ b, f.get T = some (.bool b) ∧ (b = true ↔ Q)) ∧ W w w' ∧ Fr.le fr f) (fun e f w => Φ e ds f w)) fr w)
    (h2 : ∀ w', W w w' → CN P y m rd ds Φ ((T, .bool (@decide Q (Classical.propDecidable Q))) :: fr) w') : CN P (.seq x y) m rd ds Φ fr w :=
  CN.seq_to (X := Unit) (fun _ => (T, .bool (@decide Q (Classical.propDecidable Q))) :: fr) (fun _ w' => W w w')
    (CW.mono h1 fun e f w' hp => by
      cases e with
      | normal =>
        obtain ⟨⟨b, hb, hq⟩, hw, hl⟩ := hp
        have hbq : b = @decide Q (Classical.propDecidable Q) := by
          by_cases h : Q
          · rw [hq.2 h, @decide_eq_true Q (Classical.propDecidable Q) h]
          · rw [@decide_eq_false Q (Classical.propDecidable Q) h]
            cases b with
            | true => exact absurd (hq.1 rfl) h
            | false => rfl
        exact ⟨(), Fr.le.cons (by rw [hb, hbq]) hl, hw⟩
      | _ => exact hp)
    (fun u w' hw => h2 w' hw)
theorem CN.seq_testE {P : Program} {m : Nat} {rd : Option Nat} {ds : List Deferred} {Φ : Exit → List Deferred → Fr → World → Prop} {fr : Fr} {w : World} {x y : Code} (T : Nat) (Q : Prop)
    (h1 : CW P x (m, ds, rd) (thenF (fun f w' => (∃ b, f.get T = some (.bool b) ∧ (b = true ↔ Q)) ∧ Ext w w' ∧ Fr.le fr f) (fun e f w => Φ e ds f w)) fr w)
    (h2 : ∀ w', Ext w w' → CN P y m rd ds Φ ((T, .bool (@decide Q (Classical.propDecidable Q))) :: fr) w') : CN P (.seq x y) m rd ds Φ fr w := CN.seq_testW Ext T Q h1 h2
theorem CN.seq_test {P : Program} {m : Nat} {rd : Option Nat} {ds : List Deferred} {Φ : Exit → List Deferred → Fr → World → Prop} {fr : Fr} {w : World} {x y : Code} (T : Nat) (Q : Prop)
    (h1 : CW P x (m, ds, rd) (thenF (fun f w' => (∃ b, f.get T = some (.bool b) ∧ (b = true ↔ Q)) ∧ w' = w ∧ Fr.le fr f) (fun e f w => Φ e ds f w)) fr w)
    (h2 : CN P y m rd ds Φ ((T, .bool (@decide Q (Classical.propDecidable Q))) :: fr) w) : CN P (.seq x y) m rd ds Φ fr w :=
  CN.seq_testW (fun w w' => w' = w) T Q h1 (fun w' hw => by subst hw; exact h2)
theorem Chg.putObj {S : Nat → Prop} {w : World} {r : Nat} (o : Obj) (h : S r) : Chg S w (w.putObj r o) :=
  ⟨rfl, rfl, rfl, by simp, fun k _ hn => World.putObj_heap_other (fun e => hn (e ▸ h)), Nat.le_refl _⟩
abbrev mark (D : Nat) : Deferred := { target := .collected D, args := #[] }
def IterC {σ α : Type} (P : Program) (gf : Nat) (lb : List Value) (w : World) (Setup : World → σ → World → Prop) (xs : σ → List α) (encs : α → List Value) (T0 : Nat → Prop) (Keep : σ → Nat → Nat → Prop) (At : σ → Nat → World → Prop) (Fin : World → Prop) : Prop :=
  ∀ (l : Nat) (w1 : World) (J : σ → Nat → World → Prop) (Jx : World → Prop), Ext w w1 →
    (∀ s V, Chg T0 w1 V → Setup w1 s V → J s 0 V) →
    (∀ s i V V', J s i V → Chg T0 V V' → J s i V') →
    (∀ V V', Jx V → Chg T0 V V' → Jx V') →
    (∀ s i x V, J s i V → (xs s)[i]? = some x → At s i V →
      YieldAt (FX none) 0 P l (encs x).toArray V (fun e V' => ∃ b, e = .returned (.bool b) ∧ ((b = true ∧ J s (i + 1) V' ∧ Chg (fun k => ¬ Keep s i k) V V') ∨ (b = false ∧ Jx V' ∧ Chg (fun k => ¬ Keep s i k) V V')))) →
    Calls P gf (.func (.yield l) #[] #[] :: lb).toArray w1 (Ret fun _ V => ((∃ s, J s (xs s).length V) ∨ Jx V) ∧ Fin V)
def zipF : List Nat → List Value → Fr → Fr
  | p :: ps, v :: vs, f => zipF ps vs ((p, v) :: f)
  | _, _, f => f
theorem Rep.zip {m : Nat} {ds : List Deferred} {rd : Option Nat} : ∀ {ps : List Nat} {vs : List Value} {t : Array Value} {fr : Fr}, (∀ p ∈ ps, p < m) → Rep (m, ds, rd) { tmps := t, defers := ds } fr →
    Rep (m, ds, rd) { tmps := (ps.zip vs).foldl (fun t (p, v) => t.setIfInBounds p v) t, defers := ds } (zipF ps vs fr)
  | [], _, _, _, _, h => by simpa [zipF] using h
  | _ :: _, [], _, _, _, h => by simpa [zipF] using h
  | p :: ps, v :: vs, t, fr, hp, h => by
    have h1 := h.put (hp p (by simp)) v
    have := Rep.zip (ps := ps) (vs := vs) (t := t.setIfInBounds p v) (fr := (p, v) :: fr) (fun q hq => hp q (by simp [hq])) h1
    simpa [zipF] using this
@[reducible] def RoundF (l D : Nat) (Kp : Nat → Prop) (I' : World → Prop) (Ix : Exit → World → Prop) (V2 : World) : Exit → Fr → World → Prop
  | .normal, _, V3 => I' V3 ∧ Chg (fun k => ¬ Kp k ∧ k ≠ l ∧ k ≠ D) V2 V3
  | .ret, _, V3 => Ix .ret V3 ∧ Chg (fun k => ¬ Kp k ∧ k ≠ l ∧ k ≠ D) V2 V3
  | .exit id, _, V3 => Ix (.exit id) V3 ∧ Chg (fun k => ¬ Kp k ∧ k ≠ l ∧ k ≠ D) V2 V3
  | .goto t, _, V3 => Ix (.goto t) V3 ∧ Chg (fun k => ¬ Kp k ∧ k ≠ l ∧ k ≠ D) V2 V3
  | _, _, _ => False
theorem CN.range {P : Program} {m : Nat} {ds : List Deferred} {Φ : Exit → List Deferred → Fr → World → Prop} {fr : Fr} {w : World} {σ α : Type} {g : Operand} {ps : List Nat} {assign body : Code} {gf : Nat} {lb : List Value} {fn : Func}
    {Setup : World → σ → World → Prop} {xs : σ → List α} {encs : α → List Value} {T0 : Nat → Prop} {Keep : σ → Nat → Nat → Prop} {At : σ → Nat → World → Prop} {Fin : World → Prop}
    (hg : ev fr g = some (.func (.func gf) #[] lb.toArray)) (hf : P.funcs[gf]? = some fn) (hb : fn.body.isNone = false) (hn : (fn.name == "runtime.NumGoroutine") = false)
    (hit : IterC P gf lb w Setup xs encs T0 Keep At Fin) (hps : ∀ x, (encs x).length = ps.length) (hpm : ∀ p ∈ ps, p < m)
    (hT0 : ∀ k, T0 k → k < w.heap.size) (hK : ∀ w1 s V, w.heap.size + 2 ≤ w1.heap.size → Setup w1 s V → ∀ i, ¬ Keep s i (w.heap.size + 1))
    (I : σ → Nat → World → Prop) (Ix : σ → Exit → World → Prop)
    (h0 : ∀ w1 s V, Ext w w1 → w.heap.size + 2 ≤ w1.heap.size → Chg T0 w1 V → Setup w1 s V → I s 0 V)
    (hI : ∀ s i V V', I s i V → Chg (fun k => T0 k ∨ k = w.heap.size + 1) V V' → I s i V')
    (hIx : ∀ s e V V', Ix s e V → Chg (fun k => T0 k ∨ k = w.heap.size + 1) V V' → Ix s e V')
    (hround : ∀ s i x V, I s i V → (xs s)[i]? = some x → At s i V → w.heap.size + 2 ≤ V.heap.size →
      CW P assign (m, [], some (w.heap.size + 1)) (thenF (fun f V1 => Ext V V1 ∧ ∀ V2, Chg (fun k => k = w.heap.size + 1) V1 V2 →
        CW P body (m, [], some (w.heap.size + 1)) (RoundF (w.heap.size + 1) w.heap.size (Keep s i) (I s (i + 1)) (Ix s) V2) f V2) (fun _ _ _ => False)) (zipF ps (encs x) fr) V)
    (hdone : ∀ s V, I s (xs s).length V → V.heap[w.heap.size]? = some (.deferred (some [])) → (∃ V0, Fin V0 ∧ Chg (fun k => k = w.heap.size + 1) V0 V) → Φ .normal (mark w.heap.size :: ds) fr V)
    (hleave : ∀ s e V, Ix s e V → V.heap[w.heap.size]? = some (.deferred (some [])) → (∃ V0, Fin V0 ∧ Chg (fun k => k = w.heap.size + 1) V0 V) → e = .ret ∨ (∃ id, e = .exit id) ∨ (∃ t, e = .goto t) → Φ e (mark w.heap.size :: ds) fr V) :
    CN P (.rangeFunc g ps.toArray assign body) m none ds Φ fr w := by
  intro a ha
  refine wpIn_rangeFunc fun fn0 _ => ?_
  obtain ⟨rec, hrec⟩ : ∃ rec : LoopState → Option Code → Loop, rec = fun st pe => { state := st, pending := pe, fn := fn0, tmps := a.tmps, params := ps.toArray, assign, body, defers := w.heap.size } := ⟨_, rfl⟩
  obtain ⟨W1, hW1⟩ : ∃ W1, (w.alloc (.deferred (some []))).alloc (.loop (rec .ready none)) = W1 := ⟨_, rfl⟩
  have hx1 : Ext w W1 := by rw [← hW1]; exact (Chg.alloc _).trans (Chg.alloc (S := fun _ => False) _) (fun _ _ f => f)
  have hz1 : W1.heap.size = w.heap.size + 2 := by rw [← hW1]; simp
  have hL1 : W1.heap[w.heap.size + 1]? = some (.loop (rec .ready none)) := by
    rw [← hW1]; have := World.alloc_heap_new (w.alloc (.deferred (some []))) (.loop (rec .ready none)); rwa [World.size_alloc] at this
  have hD1 : W1.heap[w.heap.size]? = some (.deferred (some [])) := by
    rw [← hW1]; exact (Below.heap_alloc _ _ _ (by simp)).trans (World.alloc_heap_new w _)
  refine ⟨w.heap.size + 1, [mark w.heap.size], W1, { target := .fn (.func gf) lb.toArray, args := #[.func (.yield (w.heap.size + 1)) #[] #[]] }, W1, gf,
    #[.func (.yield (w.heap.size + 1)) #[] #[]] ++ lb.toArray, W1, ?_, ?_, fun _ _ => trivial, ?_, fun hx => (by simp [FX] at hx), ?_⟩
  · rw [← hW1, hrec]; exact run_enterLoop_outer _ _ _ _ _
  · have e := ha.ev hg
    simp only [resolve, e]
    simp [Deferred.ofValue, Act.eval]
  · simp [invoke, run_callFunc hf hb hn]
  · refine callsIn_FX.2 ?_
    have hdef : ∀ V : World, (a.defers = ds) → Rep (m, mark w.heap.size :: ds, none) { a with defers := mark w.heap.size :: a.defers } fr := fun V hd => ⟨ha.size, by rw [hd], ha.get⟩
    have hend : ∀ (st : LoopState) (pe : Option Code) (V : World), st ≠ .busy → V.heap[w.heap.size + 1]? = some (.loop (rec st pe)) →
        (Instr.endLoop (w.heap.size + 1)).run P V = .ok pe (V.putObj (w.heap.size + 1) (.loop (rec .exhausted pe))) := fun st pe V hs hv => by
      have := run_endLoop (P := P) hv (by rw [hrec]; exact hs)
      rw [hrec] at this ⊢
      exact this
    have key := hit (w.heap.size + 1) W1
      (fun s i V => I s i V ∧ V.heap[w.heap.size + 1]? = some (.loop (rec .ready none)) ∧ V.heap[w.heap.size]? = some (.deferred (some [])) ∧ w.heap.size + 2 ≤ V.heap.size ∧ ∀ i, ¬ Keep s i (w.heap.size + 1))
      (fun V => ∃ s e c, Ix s e V ∧ V.heap[w.heap.size + 1]? = some (.loop (rec .done (some c))) ∧ V.heap[w.heap.size]? = some (.deferred (some [])) ∧ w.heap.size + 2 ≤ V.heap.size ∧
        ((e = .ret ∧ c = .ret) ∨ (∃ id, e = .exit id ∧ c = .exit id) ∨ (∃ t, e = .goto t ∧ c = .goto t))) hx1
      (fun s V hc hs => ⟨h0 W1 s V hx1 (by omega) hc hs, (hc.block _ (by omega) (fun h => by have := hT0 _ h; omega)).trans hL1, (hc.block _ (by omega) (fun h => by have := hT0 _ h; omega)).trans hD1, by have := hc.size; omega, hK W1 s V (by omega) hs⟩)
      (fun s i V V' hJ hc => ⟨hI s i V V' hJ.1 (hc.mono fun _ _ h => .inl h), (hc.block _ (by omega) (fun h => by have := hT0 _ h; omega)).trans hJ.2.1, (hc.block _ (by omega) (fun h => by have := hT0 _ h; omega)).trans hJ.2.2.1, by have := hc.size; omega, hJ.2.2.2.2⟩)
      (fun V V' hJ hc => by
        obtain ⟨s, e, c, h1, h2, h3, h4, h5⟩ := hJ
        exact ⟨s, e, c, hIx s e V V' h1 (hc.mono fun _ _ h => .inl h), (hc.block _ (by omega) (fun h => by have := hT0 _ h; omega)).trans h2, (hc.block _ (by omega) (fun h => by have := hT0 _ h; omega)).trans h3, by have := hc.size; omega, h5⟩)
      (fun s i x V hJ hx hAt => by
        obtain ⟨hi, hl, hD, hz, hk⟩ := hJ
        have hy := run_yield (P := P) (args := (encs x).toArray) hl (by rw [hrec]; simp [hps x])
        rw [hrec] at hy
        refine ⟨fn0, _, assign, body, hy, roundIn_of_wpIn trivial ?_⟩
        have hrep : Rep (m, [], some (w.heap.size + 1)) { tmps := (ps.toArray.zip (encs x).toArray).foldl (fun t (p, v) => t.setIfInBounds p v) a.tmps, defers := [] } (zipF ps (encs x) fr) := by
          have h1 : Rep (m, [], some (w.heap.size + 1)) { tmps := a.tmps, defers := [] } fr := ⟨ha.size, rfl, ha.get⟩
          have := Rep.zip (vs := encs x) hpm h1
          simpa using this
        refine wpIn_mono (hround s i x V hi hx hAt hz _ hrep) ?_
        rintro e a1 V1 ⟨f, hf1, hp⟩
        cases e with
        | normal =>
          obtain ⟨hx2, hbody⟩ := hp
          have hl1 := (hx2.block _ (by omega) (fun h => h)).trans hl
          have hD1 := (hx2.block _ (by omega) (fun h => h)).trans hD
          refine ⟨_, run_beginRound hl1 (by rw [hrec]), ?_⟩
          have hlt : w.heap.size + 1 < V1.heap.size := by have := hx2.size; omega
          have hl2 : (V1.putObj (w.heap.size + 1) (.loop { rec .ready none with state := .busy })).heap[w.heap.size + 1]? = some (.loop { rec .ready none with state := .busy }) := World.putObj_heap_same hlt
          have hD2 : (V1.putObj (w.heap.size + 1) (.loop { rec .ready none with state := .busy })).heap[w.heap.size]? = some (.deferred (some [])) := (World.putObj_heap_other (by omega)).trans hD1
          have hc2 : Chg (fun k => k = w.heap.size + 1) V1 (V1.putObj (w.heap.size + 1) (.loop { rec .ready none with state := .busy })) := Chg.putObj _ rfl
          have fin : ∀ (jump : Option Code) (V3 : World), Chg (fun k => k ≠ w.heap.size + 1 ∧ k ≠ w.heap.size) (V1.putObj (w.heap.size + 1) (.loop { rec .ready none with state := .busy })) V3 →
              (Instr.endRound (w.heap.size + 1) jump).run P V3 = .ok (.bool jump.isNone) (V3.putObj (w.heap.size + 1) (.loop (rec (if jump.isNone then .ready else .done) jump))) ∧
              (V3.putObj (w.heap.size + 1) (.loop (rec (if jump.isNone then .ready else .done) jump))).heap[w.heap.size + 1]? = some (.loop (rec (if jump.isNone then .ready else .done) jump)) ∧
              (V3.putObj (w.heap.size + 1) (.loop (rec (if jump.isNone then .ready else .done) jump))).heap[w.heap.size]? = some (.deferred (some [])) ∧ w.heap.size + 2 ≤ (V3.putObj (w.heap.size + 1) (.loop (rec (if jump.isNone then .ready else .done) jump))).heap.size := fun jump V3 hk3 => by
            have hl3 := (hk3.block _ (Array.getElem?_eq_some_iff.1 hl2).1 (fun h => h.1 rfl)).trans hl2
            have hD3 := (hk3.block _ (Array.getElem?_eq_some_iff.1 hD2).1 (fun h => h.2 rfl)).trans hD2
            have hz3 := hk3.size
            have := run_endRound (P := P) jump hl3
            rw [hrec] at this ⊢
            refine ⟨this, World.putObj_heap_same (Array.getElem?_eq_some_iff.1 hl3).1, (World.putObj_heap_other (by omega)).trans hD3, ?_⟩
            simp only [World.putObj_size] at hz3 ⊢
            have := hx2.size
            omega
          have chg : ∀ (V3 : World) (o : Obj), Chg (fun k => ¬ Keep s i k ∧ k ≠ w.heap.size + 1 ∧ k ≠ w.heap.size) (V1.putObj (w.heap.size + 1) (.loop { rec .ready none with state := .busy })) V3 → Chg (fun k => ¬ Keep s i k) V (V3.putObj (w.heap.size + 1) o) := fun V3 o hk3 =>
            ((hx2.chg.trans (hc2.mono (T := fun k => ¬ Keep s i k) fun k _ h => by rw [h]; exact hk i) (fun _ _ h => h)).trans (hk3.mono (T := fun k => ¬ Keep s i k) fun _ _ h => h.1) (fun _ _ h => h)).trans (Chg.putObj (S := fun k => ¬ Keep s i k) _ (hk i)) (fun _ _ h => h)
          refine wpIn_mono (hbody _ hc2 a1 hf1) ?_
          rintro e3 a3 V3 ⟨f3, hf3, hp3⟩
          cases e3 with
          | normal =>
            obtain ⟨hi3, hk3⟩ := hp3
            obtain ⟨hr, hl4, hD4, hz4⟩ := fin none V3 (hk3.mono fun _ _ h => ⟨h.2.1, h.2.2⟩)
            refine ⟨_, _, hr, true, rfl, .inl ⟨rfl, ⟨hI _ _ _ _ hi3 (Chg.putObj _ (.inr rfl)), hl4, hD4, hz4, hk⟩, ?_⟩⟩
            exact chg V3 _ hk3
          | ret =>
            obtain ⟨hi3, hk3⟩ := hp3
            obtain ⟨hr, hl4, hD4, hz4⟩ := fin (some .ret) V3 (hk3.mono fun _ _ h => ⟨h.2.1, h.2.2⟩)
            exact ⟨_, _, hr, false, rfl, .inr ⟨rfl, ⟨s, .ret, .ret, hIx _ _ _ _ hi3 (Chg.putObj _ (.inr rfl)), hl4, hD4, hz4, .inl ⟨rfl, rfl⟩⟩, chg V3 _ hk3⟩⟩
          | exit id =>
            obtain ⟨hi3, hk3⟩ := hp3
            obtain ⟨hr, hl4, hD4, hz4⟩ := fin (some (.exit id)) V3 (hk3.mono fun _ _ h => ⟨h.2.1, h.2.2⟩)
            exact ⟨_, _, hr, false, rfl, .inr ⟨rfl, ⟨s, .exit id, .exit id, hIx _ _ _ _ hi3 (Chg.putObj _ (.inr rfl)), hl4, hD4, hz4, .inr (.inl ⟨id, rfl, rfl⟩)⟩, chg V3 _ hk3⟩⟩
          | goto t =>
            obtain ⟨hi3, hk3⟩ := hp3
            obtain ⟨hr, hl4, hD4, hz4⟩ := fin (some (.goto t)) V3 (hk3.mono fun _ _ h => ⟨h.2.1, h.2.2⟩)
            exact ⟨_, _, hr, false, rfl, .inr ⟨rfl, ⟨s, .goto t, .goto t, hIx _ _ _ _ hi3 (Chg.putObj _ (.inr rfl)), hl4, hD4, hz4, .inr (.inr ⟨t, rfl, rfl⟩)⟩, chg V3 _ hk3⟩⟩
          | panic c => exact hp3.elim
          | outgrown => exact hp3.elim
        | exit id => exact hp.elim
        | goto t => exact hp.elim
        | ret => exact hp.elim
        | panic c => exact hp.elim
        | outgrown => exact hp.elim)
    have hlist : (Value.func (.yield (w.heap.size + 1)) #[] #[] :: lb).toArray = #[Value.func (.yield (w.heap.size + 1)) #[] #[]] ++ lb.toArray := by simp
    rw [hlist] at key
    refine key.mono ?_
    rintro e V hR
    cases e with
    | returned v =>
      obtain ⟨hR, hfin⟩ := hR
      rcases hR with ⟨s, hi, hl, hD, hz, _⟩ | ⟨s, e, c, hi, hl, hD, hz, hec⟩
      · refine ⟨none, _, hend .ready none V (by simp) hl, _, fr, hdef V ha.defers, ?_⟩
        exact hdone s _ (hI _ _ _ _ hi (Chg.putObj _ (.inr rfl))) ((World.putObj_heap_other (by omega)).trans hD) ⟨V, hfin, Chg.putObj _ rfl⟩
      · refine ⟨some c, _, hend .done (some c) V (by simp) hl, ?_⟩
        have hi' := hIx _ _ _ _ hi (Chg.putObj (r := w.heap.size + 1) (.loop (rec .exhausted (some c))) (.inr rfl))
        have hD' : (V.putObj (w.heap.size + 1) (.loop (rec .exhausted (some c)))).heap[w.heap.size]? = some (.deferred (some [])) := (World.putObj_heap_other (by omega)).trans hD
        have hw := hleave s e _ hi' hD' ⟨V, hfin, Chg.putObj _ rfl⟩ (by rcases hec with ⟨h, _⟩ | ⟨id, h, _⟩ | ⟨t, h, _⟩ <;> simp [h])
        rcases hec with ⟨rfl, rfl⟩ | ⟨id, rfl, rfl⟩ | ⟨t, rfl, rfl⟩
        · exact wpIn_ret ⟨_, fr, hdef V ha.defers, hw⟩
        · exact wpIn_exit ⟨_, fr, hdef V ha.defers, hw⟩
        · exact wpIn_goto ⟨_, fr, hdef V ha.defers, hw⟩
    | panicked ch => exact hR.elim
    | outgrown => exact hR.elim
@[reducible] def EndN (ts : List Nat) (R : Value → World → Prop) (ds : List Deferred) (fr : Fr) (w : World) : Prop :=
  ∃ Ds : List Nat, ds = Ds.map mark ∧ Ds.Nodup ∧ (∀ D ∈ Ds, w.heap[D]? = some (.deferred (some []))) ∧ ∃ v, resV fr ts = some v ∧ ∀ w', Chg (fun k => k ∈ Ds) w w' → R v w'
@[reducible] def DoneN (ts : List Nat) (R : Value → World → Prop) : Exit → List Deferred → Fr → World → Prop
  | .normal, ds, fr, w => EndN ts R ds fr w
  | .ret, ds, fr, w => EndN ts R ds fr w
  | _, _, _, _ => False
theorem leaves_marks {P : Program} {fn : Func} {tmps : Array Value} {v : Value} (hv : ∀ w, (results fn tmps).run P w = .ok v w) {R : Value → World → Prop} : ∀ (Ds : List Nat) (w : World), Ds.Nodup → (∀ D ∈ Ds, w.heap[D]? = some (.deferred (some []))) →
    (∀ w', Chg (fun k => k ∈ Ds) w w' → R v w') → LeavesInM (FX none) 0 P fn tmps (Ret R) (Ds.map mark) .returning w
  | [], w, _, _, h => ⟨v, hv w, h w Chg.refl⟩
  | D :: Ds, w, hn, hD, h => by
    have hn' := List.nodup_cons.1 hn
    refine ⟨by simp, .inl ⟨D, w.putObj D (.deferred none), rfl, run_takeDeferred (hD D (by simp)), ?_⟩⟩
    refine leaves_marks hv Ds _ hn'.2 (fun E hE => (World.putObj_heap_other (fun e => hn'.1 (by rw [← e]; exact hE))).trans (hD E (List.mem_cons_of_mem _ hE))) fun w' hc => ?_
    exact h w' ((Chg.putObj (S := fun k => k ∈ D :: Ds) _ (by simp)).trans (hc.mono (T := fun k => k ∈ D :: Ds) fun k _ hk => List.mem_cons_of_mem _ hk) (fun _ _ h => h))
theorem calls_of_CN {P : Program} {w : World} {f : FuncId} {fn : Func} {c : Code} {args : List Value} {R : Value → World → Prop} (m : Nat) (ts : List Nat) (fr0 : Fr)
    (hf : P.funcs[f]? = some fn) (hb : fn.body = some c) (hm : fn.ntmps = m) (hr : fn.results = (ts.map ResultVar.tmp).toArray)
    (hsz : args.length ≤ m) (hargs : ∀ t v, fr0.get t = some v → args[t]? = some v)
    (h : CN P c m none [] (DoneN ts R) fr0 w) : Calls P f args.toArray w (Ret R) := by
  refine callsIn_FX.1 (callsIn_of_wp_marks (F := FX none) (n := 0) hf hb trivial ?_)
  have hrep : Rep (m, [], none) { tmps := args.toArray ++ Array.replicate (fn.ntmps - args.toArray.size) undef, defers := [] } fr0 := by
    refine ⟨by simp [hm]; omega, rfl, fun t v hv => ?_⟩
    have h1 := hargs t v hv
    have hlt : t < args.length := (List.getElem?_eq_some_iff.1 h1).1
    simpa [Array.getElem?_append, hlt] using (List.getElem?_eq_some_iff.1 h1).2
  refine wpIn_mono (h _ hrep) ?_
  rintro e a' w' ⟨ds', fr', hf', hp⟩
  have fin : EndN ts R ds' fr' w' → LeavesInM (FX none) 0 P fn a'.tmps (Ret R) a'.defers .returning w' := by
    rintro ⟨Ds, rfl, hnd, hD, v, hv, hR⟩
    have e : a'.defers = Ds.map mark := hf'.defers
    rw [e]
    exact leaves_marks (fun w => run_results hf' hr hv w) Ds w' hnd hD hR
  cases e with
  | normal => exact fin hp
  | ret => exact fin hp
  | exit id => exact hp
  | goto l => exact hp
  | panic ch => exact hp.elim
  | outgrown => exact hp.elim
end Go.Fw
