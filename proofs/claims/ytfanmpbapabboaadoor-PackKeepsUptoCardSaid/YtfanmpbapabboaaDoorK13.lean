/- Parts of a proof: what its last text leans on. No condition. -/
import Derived.RangeFuncSeq
import Derived.Test.YtfanmpbapabboaaDoorK02
import Derived.Test.YtfanmpbapabboaaDoorK03
import Derived.Test.YtfanmpbapabboaaDoorK12
set_option linter.unusedSimpArgs false
set_option linter.unusedVariables false
/- Ranges over functions: regions with a call of yield, what an iterator promises, the statement, a function that holds one. No condition; no program. -/
namespace Go.Fw
open Go.RowKit
def HL (P : Program) (ops : Array Oper) (w : World) (n : NN) (Ψ : Fr → Prop) (l : List Oper) (fr : Fr) : Prop :=
 ∀ a, Rep n a fr → wpStill P ops w (fun a' => ∃ f, Rep n a' f ∧ Ψ f) l a
def WI (P : Program) (ops : Array Oper) (n : NN) (Φ : Exit → Fr → World → Prop) (l : List Oper) (fr : Fr) (w : World) : Prop :=
 ∀ a, Rep n a fr → wpListIn (FX n.2.2) 0 P ops (lift n Φ) l a w
theorem roundIn_FX {rd : Option Nat} {k l : Nat} {P : Program} {f : FuncId} {tmps : Array Value} {assign body : Code} {w : World} {R : Ending → World → Prop} (h : RoundIn (FX none) 0 P l f tmps assign body w R) : RoundIn (FX rd) k P l f tmps assign body w R :=
 ⟨trivial, fun c cs _ => h.2 c cs (room_FX _)⟩
section
variable {P : Program} {n : NN} {Φ : Exit → Fr → World → Prop} {fr : Fr} {w : World} {ops : Array Oper} {rest : List Oper} {Ψ : Fr → Prop}
theorem HL.nil (h : Ψ fr) : HL P ops w n Ψ [] fr := fun _ ha => ⟨fr, ha, h⟩
theorem HL.val {d : Nat} {o : Op} {ty : TypeId} {pos : String} {aft : Array Edge} {v : Value} (hy : Yw P n fr o ty w v w) (hd : d < n.1) (h : HL P ops w n Ψ rest ((d, v) :: fr)) :
  HL P ops w n Ψ (⟨some d, o, ty, pos, aft, none⟩ :: rest) fr := fun a ha =>
 wpStill_step fun K hK => by
  rw [if_pos (by simp [Region.wanted])]
  unfold Oper.still
  rw [hy a _ rfl rfl ha]
  exact ⟨rfl, hK _ (h _ (ha.put hd v))⟩
theorem HL.gval {d j dj : Nat} {b : Bool} {o : Op} {ty : TypeId} {pos : String} {aft : Array Edge} {v : Value}
  (hj : (ops[j]?).bind (·.dst) = some dj) (hg : fr.get dj = some (.bool b)) (hy : Yw P n fr o ty w v w) (hd : d < n.1) (h : HL P ops w n Ψ rest ((d, v) :: fr)) :
  HL P ops w n Ψ (⟨some d, o, ty, pos, aft, some (j, b)⟩ :: rest) fr := fun a ha =>
 wpStill_step fun K hK => by
  rw [if_pos (by simp [Region.wanted, yielded_eq ha hj hg])]
  unfold Oper.still
  rw [hy a _ rfl rfl ha]
  exact ⟨rfl, hK _ (h _ (ha.put hd v))⟩
theorem HL.goff {d j dj : Nat} {b : Bool} {o : Op} {ty : TypeId} {pos : String} {aft : Array Edge}
  (hj : (ops[j]?).bind (·.dst) = some dj) (hg : fr.get dj = some (.bool (!b))) (hd : d < n.1) (h : HL P ops w n Ψ rest ((d, undef) :: fr)) :
  HL P ops w n Ψ (⟨some d, o, ty, pos, aft, some (j, b)⟩ :: rest) fr := fun a ha =>
 wpStill_step fun K hK => by
  rw [if_neg (by simp [Region.wanted, yielded_eq ha hj hg])]
  exact hK _ (h _ (ha.put hd undef))
theorem HL.goffU {d j dj : Nat} {b : Bool} {o : Op} {ty : TypeId} {pos : String} {aft : Array Edge}
  (hj : (ops[j]?).bind (·.dst) = some dj) (hg : fr.get dj = some undef) (hd : d < n.1) (h : HL P ops w n Ψ rest ((d, undef) :: fr)) :
  HL P ops w n Ψ (⟨some d, o, ty, pos, aft, some (j, b)⟩ :: rest) fr := fun a ha =>
 wpStill_step fun K hK => by
  rw [if_neg (by simp [Region.wanted, yielded_undef ha hj hg])]
  exact hK _ (h _ (ha.put hd undef))
theorem HL.cases {l : List Oper} {d : Nat} {c : Bool} (hg : fr.get d = some (.bool c))
  (ht : c = true → HL P ops w n Ψ l ((d, .bool true) :: fr)) (hf : c = false → HL P ops w n Ψ l ((d, .bool false) :: fr)) : HL P ops w n Ψ l fr := by
 intro a ha
 cases c with
 | true => exact ht rfl a (ha.weaken (Fr.le.cons hg Fr.le.refl))
 | false => exact hf rfl a (ha.weaken (Fr.le.cons hg Fr.le.refl))
theorem HL.casesD {l : List Oper} {d : Nat} {p : Prop} {inst : Decidable p} (hg : fr.get d = some (.bool (@decide p inst)))
  (ht : p → HL P ops w n Ψ l ((d, .bool true) :: fr)) (hf : ¬ p → HL P ops w n Ψ l ((d, .bool false) :: fr)) : HL P ops w n Ψ l fr :=
 HL.cases hg (fun h => ht (@of_decide_eq_true p inst h)) (fun h => hf (@of_decide_eq_false p inst h))
theorem HL.casesND {l : List Oper} {d : Nat} {p : Prop} {inst : Decidable p} (hg : fr.get d = some (.bool (!@decide p inst)))
  (ht : ¬ p → HL P ops w n Ψ l ((d, .bool true) :: fr)) (hf : p → HL P ops w n Ψ l ((d, .bool false) :: fr)) : HL P ops w n Ψ l fr :=
 HL.cases hg (fun h => ht (@of_decide_eq_false p inst (by simpa using h))) (fun h => hf (@of_decide_eq_true p inst (by simpa using h)))
theorem WI.nil (h : Φ .normal fr w) : WI P ops n Φ [] fr w := fun _ ha => wpListIn_nil ⟨fr, ha, h⟩
theorem WI.val {d : Nat} {o : Op} {ty : TypeId} {pos : String} {aft : Array Edge} {v : Value} {w' : World}
  (hy : Yw P n fr o ty w v w') (hd : d < n.1) (h : WI P ops n Φ rest ((d, v) :: fr) w') (hnd : ∀ c, o ≠ .defer c := by intro c h; cases h) : WI P ops n Φ (⟨some d, o, ty, pos, aft, none⟩ :: rest) fr w := fun a ha => by
 unfold wpListIn
 rw [if_pos (by simp [Region.wanted])]
 refine wpIn_of_wp hnd ?_
 unfold Oper.wp
 rw [hy a _ rfl rfl ha]
 exact h _ (ha.put hd v)
theorem WI.yield {d t l : Nat} {args : List Operand} {tys : Array TypeId} {ty : TypeId} {pos : String} {aft : Array Edge} {vs : List Value} {R : Bool → World → Prop}
  (ht : fr.get t = some (.func (.yield l) #[] #[])) (he : evs fr args = some vs) (hY : YieldAt (FX none) 0 P l vs.toArray w (fun e w' => ∃ b, e = .returned (.bool b) ∧ R b w')) (hd : d < n.1)
  (h : ∀ b w', R b w' → WI P ops n Φ rest ((d, .bool b) :: fr) w') : WI P ops n Φ (⟨some d, .call { callee := .value (.tmp t), args := args.toArray, argTypes := tys }, ty, pos, aft, none⟩ :: rest) fr w := fun a ha => by
 unfold wpListIn
 rw [if_pos (by simp [Region.wanted])]
 obtain ⟨fn, tmps, assign, body, hy, hR⟩ := hY
 have hrun : (execOp a.eval ⟨some d, .call { callee := .value (.tmp t), args := args.toArray, argTypes := tys }, ty, pos, aft, none⟩).run P w = .ok (.round l fn tmps assign body) w := by
  have h1 := ha.evs he
  have h2 : a.eval (.tmp t) = .func (.yield l) #[] #[] := ha.ev (x := .tmp t) ht
  simp [execOp, resolve, invoke, Deferred.ofValue, h2, h1, hy]
 refine ⟨fun _ _ => trivial, ?_⟩
 rw [Oper.semAt_eq _ _ _ (by intro c hc; cases hc), hrun]
 refine ⟨fun hx => by simp [FX] at hx, (roundIn_FX hR).mono fun e w' he => ?_⟩
 obtain ⟨b, rfl, hb⟩ := he
 exact h b w' hb _ (ha.put hd _)
theorem stOp_wpOpIn {rd : Option Nat} {l : List Oper} (hd : noDefer l = true) {i : Nat} {a : Act} {K : Act → Prop} {K' : Act → World → Prop} {Q' : Exit → Act → World → Prop} (h : ∀ a, K a → K' a w) (hh : stOp P l.toArray w i K a) : wpOpIn (FX rd) 0 P l.toArray Q' i K' a w := by
 unfold stOp at hh
 unfold wpOpIn
 split
 ·
  rename_i ho; simp only [ho] at hh; exact h _ hh
 ·
  rename_i o ho
  simp only [ho] at hh
  split
  ·
   rename_i hw
   simp only [hw, if_true] at hh
   exact wpIn_of_wp (noDefer_at hd (by simpa using ho)) (Oper.wp_of_still h hh)
  ·
   rename_i hw; simp only [hw] at hh; exact ⟨fun _ _ => trivial, h _ hh⟩
theorem wpAnyIn_head {rd : Option Nat} {l : List Oper} (hd : noDefer l = true) {k g : Nat} {L : Array Bool → Act → Prop} {Q' : Exit → Act → World → Prop} (hL : ∀ listed a, L listed a → wpAnyIn (FX rd) 0 P .any l.toArray Q' g listed a w) :
  ∀ (f : Nat) (listed : Array Bool) (a : Act), wpAnyL P .any l.toArray w k L f listed a → wpAnyIn (FX rd) 0 P .any l.toArray Q' (f + g) listed a w
 | 0, listed, a, h => by rw [Nat.zero_add]; exact hL _ _ h
 | f + 1, listed, a, h => by
  rw [show f + 1 + g = (f + g) + 1 by omega]
  exact ⟨fun h0 => absurd h0 h.1, fun i hi => stOp_wpOpIn hd (fun a' h' => wpAnyIn_head hd hL f _ a' h') (h.2 i hi).2⟩
theorem wpAnyIn_seq {rd : Option Nat} {ops : Array Oper} {Q' : Exit → Act → World → Prop} : ∀ (l : List Oper) (k : Nat) (listed : Array Bool) (a : Act) (w : World), (∀ j, l[j]? = ops[k + j]?) →
  Region.seqB .any ops l.length k listed = true → wpListIn (FX rd) 0 P ops Q' l a w → wpAnyIn (FX rd) 0 P .any ops Q' l.length listed a w
 | [], _, _, _, _, _, hB, h => ⟨by simpa [Region.seqB] using hB, h⟩
 | o :: l, k, listed, a, w, hl, hB, h => by
  have h0 : ops[k]? = some o := by simpa using (hl 0).symm
  simp only [List.length_cons, Region.seqB, Bool.and_eq_true, decide_eq_true_eq] at hB
  refine ⟨fun h1 => (by rw [hB.1] at h1; cases h1), fun i hi => ?_⟩
  rw [hB.1] at hi
  have hik : i = k := by simpa using hi
  subst hik
  have hw : wpOpIn (FX rd) 0 P ops Q' i (wpListIn (FX rd) 0 P ops Q' l) a w := by unfold wpOpIn; simp only [h0]; exact h
  exact wpOpIn_mono (fun a' w' h' => wpAnyIn_seq l (i + 1) _ a' w' (fun j => by have := hl (j + 1); simpa [Nat.add_assoc, Nat.add_comm 1 j] using this) hB.2 h') hw
theorem CW.headI {id : Nat} {l : List Oper} (k : Nat) (hm : P.follows .mixedOrders = true) (hB : Region.lexTailB .any l.toArray k = true)
  (h : ∀ w', Ext w w' → HL P l.toArray w' n (fun f => WI P l.toArray n Φ (l.drop k) f w') (l.take k) fr) (hd : noDefer l = true := by rfl) : CW P (.region id l.toArray true) n Φ fr w := fun a ha => by
 have h := h w.drew Chg.drew a ha
 simp only [Region.lexTailB, Bool.and_eq_true, decide_eq_true_eq] at hB
 obtain ⟨⟨⟨⟨hsel, hn⟩, hs⟩, hc⟩, hlex⟩ := hB
 have hn' : k < l.length := by simpa using hn
 have htl : (l.take k).length = k := by simp; omega
 have hdl : (l.drop k).length = l.toArray.size - k := by simp
 have inv0 : HeadInv .any l.toArray k (Array.replicate l.toArray.size false) :=
  ⟨by simp, fun j oj _ hl => (by rw [getD_replicate_false] at hl; cases hl), fun t _ ht => getD_in (by simpa using ht) (getD_replicate_false _ _)⟩
 have H := wpAnyL_lex (md := .any) (g := l.toArray.size - k) hsel hs hc hn (l.take k) 0 _ a (fun j hj => by
  have hj' : j < k := by rw [htl] at hj; exact hj
  simp [hj']) (by simpa using htl) inv0 (by rw [htl]; exact hlex) h
 refine wpIn_region_any hm ?_
 have := wpAnyIn_head (rd := n.2.2) (Q' := lift n Φ) hd (g := l.toArray.size - k) (fun listed a' hL => by
  obtain ⟨f, hf, hW⟩ := hL.2
  have := wpAnyIn_seq (rd := n.2.2) (Q' := lift n Φ) (l.drop k) k listed a' w.drew (fun j => by simp [List.getElem?_drop]) (by rw [hdl]; exact hL.1) (hW a' hf)
  rwa [hdl] at this) _ _ _ H
 rw [htl, show k + (l.toArray.size - k) = l.toArray.size by omega] at this
 exact this
theorem CW.head {id : Nat} {l : List Oper} (k : Nat) (hm : P.follows .mixedOrders = true) (hB : Region.lexTailB .any l.toArray k = true)
  (h : ∀ w', Ext w w' → HL P l.toArray w' n (fun f => WL P l.toArray n Φ (l.drop k) f w') (l.take k) fr) (hR : Tame n l Φ := by first | exact .inl rfl | exact .inr ⟨rfl, fun _ _ h => h⟩) : CW P (.region id l.toArray true) n Φ fr w := fun a ha => by
 have h := h w.drew Chg.drew a ha
 simp only [Region.lexTailB, Bool.and_eq_true, decide_eq_true_eq] at hB
 obtain ⟨⟨⟨⟨hsel, hn⟩, hs⟩, hc⟩, hlex⟩ := hB
 have hn' : k < l.length := by simpa using hn
 have htl : (l.take k).length = k := by simp; omega
 have hdl : (l.drop k).length = l.toArray.size - k := by simp
 have inv0 : HeadInv .any l.toArray k (Array.replicate l.toArray.size false) :=
  ⟨by simp, fun j oj _ hl => (by rw [getD_replicate_false] at hl; cases hl), fun t _ ht => getD_in (by simpa using ht) (getD_replicate_false _ _)⟩
 have H := wpAnyL_lex (md := .any) (g := l.toArray.size - k) hsel hs hc hn (l.take k) 0 _ a (fun j hj => by
  have hj' : j < k := by rw [htl] at hj; exact hj
  simp [hj']) (by simpa using htl) inv0 (by rw [htl]; exact hlex) h
 refine region_any hR hm ?_
 have := wpAny_of_head (Q' := lift n Φ) (g := l.toArray.size - k) (fun listed a' hL => by
  obtain ⟨f, hf, hW⟩ := hL.2
  have := wpAny_of_seq (md := .any) (Q' := lift n Φ) (l.drop k) k listed a' w.drew (fun j => by simp [List.getElem?_drop]) (by rw [hdl]; exact hL.1) (hW a' hf)
  rwa [hdl] at this) _ _ _ H
 rw [htl, show k + (l.toArray.size - k) = l.toArray.size by omega] at this
 exact this
end
def liftN (m : Nat) (rd : Option Nat) (Φ : Exit → List Deferred → Fr → World → Prop) : Exit → Act → World → Prop := fun e a w => ∃ ds fr, Rep (m, ds, rd) a fr ∧ Φ e ds fr w
def CN (P : Program) (c : Code) (m : Nat) (rd : Option Nat) (ds : List Deferred) (Φ : Exit → List Deferred → Fr → World → Prop) (fr : Fr) (w : World) : Prop := ∀ a, Rep (m, ds, rd) a fr → c.wpIn (FX rd) 0 P (liftN m rd Φ) a w
@[reducible] def thenN (K : List Deferred → Fr → World → Prop) (Φ : Exit → List Deferred → Fr → World → Prop) : Exit → List Deferred → Fr → World → Prop
 | .normal, ds, f, w => K ds f w
 | e, ds, f, w => Φ e ds f w
@[reducible] def blockN (id : Nat) (Φ : Exit → List Deferred → Fr → World → Prop) : Exit → List Deferred → Fr → World → Prop
 | .exit id', ds, f, w => if id' = id then Φ .normal ds f w else Φ (.exit id') ds f w
 | e, ds, f, w => Φ e ds f w
section
variable {P : Program} {m : Nat} {rd : Option Nat} {ds : List Deferred} {Φ : Exit → List Deferred → Fr → World → Prop} {fr : Fr} {w : World}
theorem CN.of_CW {c : Code} (h : CW P c (m, ds, rd) (fun e f w => Φ e ds f w) fr w) : CN P c m rd ds Φ fr w := fun a ha => wpIn_mono (h a ha) fun _ _ _ ⟨f, hf, hp⟩ => ⟨ds, f, hf, hp⟩
theorem CN.weaken {c : Code} {g : Fr} (hl : Fr.le g fr) (h : CN P c m rd ds Φ g w) : CN P c m rd ds Φ fr w := fun a ha => h a (ha.weaken hl)
theorem CN.seq {x y : Code} (h : ∀ K : List Deferred → Fr → World → Prop, (∀ ds f w, CN P y m rd ds Φ f w → K ds f w) → CN P x m rd ds (thenN K Φ) fr w) : CN P (.seq x y) m rd ds Φ fr w := by
 intro a ha
 refine wpIn_seq (wpIn_mono (h (fun ds f w => CN P y m rd ds Φ f w) (fun _ _ _ h => h) a ha) ?_)
 rintro e a' w' ⟨ds', f, hf, hp⟩
 cases e <;> first | exact hp a' hf | exact ⟨ds', f, hf, hp⟩
theorem CN.skip (h : Φ .normal ds fr w) : CN P .skip m rd ds Φ fr w := fun _ ha => wpIn_skip ⟨ds, fr, ha, h⟩
theorem CN.ret (h : Φ .ret ds fr w) : CN P .ret m rd ds Φ fr w := fun _ ha => wpIn_ret ⟨ds, fr, ha, h⟩
theorem CN.exit {id : Nat} (h : Φ (.exit id) ds fr w) : CN P (.exit id) m rd ds Φ fr w := fun _ ha => wpIn_exit ⟨ds, fr, ha, h⟩
theorem CN.cond {c : Operand} {x y : Code} {t : Bool} (hc : ev fr c = some (.bool t)) (ht : t = true → CN P x m rd ds Φ fr w) (hf : t = false → CN P y m rd ds Φ fr w) :
  CN P (.cond c x y) m rd ds Φ fr w := fun a ha => wpIn_cond_split (ha.ev hc) (fun h => ht h a ha) (fun h => hf h a ha)
theorem CN.condD {c : Operand} {x y : Code} {p : Prop} {inst : Decidable p} (hc : ev fr c = some (.bool (@decide p inst))) (ht : p → CN P x m rd ds Φ fr w) (hf : ¬ p → CN P y m rd ds Φ fr w) :
  CN P (.cond c x y) m rd ds Φ fr w := CN.cond hc (fun h => ht (@of_decide_eq_true p inst h)) (fun h => hf (@of_decide_eq_false p inst h))
theorem CN.condND {c : Operand} {x y : Code} {p : Prop} {inst : Decidable p} (hc : ev fr c = some (.bool (!@decide p inst))) (ht : ¬ p → CN P x m rd ds Φ fr w) (hf : p → CN P y m rd ds Φ fr w) :
  CN P (.cond c x y) m rd ds Φ fr w := CN.cond hc (fun h => ht (@of_decide_eq_false p inst (by simpa using h))) (fun h => hf (@of_decide_eq_true p inst (by simpa using h)))
theorem CN.condN {c : Operand} {x y : Code} {b : Bool} (hc : ev fr c = some (.bool (!b))) (ht : b = false → CN P x m rd ds Φ fr w) (hf : b = true → CN P y m rd ds Φ fr w) :
  CN P (.cond c x y) m rd ds Φ fr w := CN.cond hc (fun h => ht (by simpa using h)) (fun h => hf (by simpa using h))
theorem CN.condT {c : Operand} {x y : Code} (hc : ev fr c = some (.bool true)) (h : CN P x m rd ds Φ fr w) : CN P (.cond c x y) m rd ds Φ fr w := fun a ha => wpIn_cond_true (ha.ev hc) (h a ha)
theorem CN.condF {c : Operand} {x y : Code} (hc : ev fr c = some (.bool false)) (h : CN P y m rd ds Φ fr w) : CN P (.cond c x y) m rd ds Φ fr w := fun a ha => wpIn_cond_false (ha.ev hc) (h a ha)
theorem CN.block {id : Nat} {c : Code} (h : CN P c m rd ds (blockN id Φ) fr w) : CN P (.block id c) m rd ds Φ fr w := by
 intro a ha
 refine wpIn_block (wpIn_mono (h a ha) ?_)
 rintro e a' w' ⟨ds', f, hf, hp⟩
 cases e with
 | exit id' =>
  simp only [blockN] at hp
  simp only [Exit.inBlock]
  split at hp <;> rename_i hid
  ·
   rw [if_pos hid]; exact ⟨ds', f, hf, hp⟩
  ·
   rw [if_neg hid]; exact ⟨ds', f, hf, hp⟩
 | normal => exact ⟨ds', f, hf, hp⟩
 | goto l => exact ⟨ds', f, hf, hp⟩
 | ret => exact ⟨ds', f, hf, hp⟩
 | panic c => exact ⟨ds', f, hf, hp⟩
 | outgrown => exact ⟨ds', f, hf, hp⟩
theorem CN.seq_to {x y : Code} {X : Type} (g : X → Fr) (W : X → World → Prop)
  (h1 : CW P x (m, ds, rd) (thenF (fun f w' => ∃ u, Fr.le (g u) f ∧ W u w') (fun e f w => Φ e ds f w)) fr w) (h2 : ∀ u w', W u w' → CN P y m rd ds Φ (g u) w') : CN P (.seq x y) m rd ds Φ fr w :=
 CN.seq fun K hK => CN.of_CW (CW.mono h1 fun e f w' hp => by
  cases e with
  | normal => obtain ⟨u, hl, hw⟩ := hp; exact hK _ _ _ (CN.weaken hl (h2 u w' hw))
  | _ => exact hp)
end
theorem CN.seq_testW {P : Program} {m : Nat} {rd : Option Nat} {ds : List Deferred} {Φ : Exit → List Deferred → Fr → World → Prop} {fr : Fr} {w : World} {x y : Code} (W : World → World → Prop) (T : Nat) (Q : Prop)
  (h1 : CW P x (m, ds, rd) (thenF (fun f w' => (∃ b, f.get T = some (.bool b) ∧ (b = true ↔ Q)) ∧ W w w' ∧ Fr.le fr f) (fun e f w => Φ e ds f w)) fr w)
  (h2 : ∀ w', W w w' → CN P y m rd ds Φ ((T, .bool (@decide Q (Classical.propDecidable Q))) :: fr) w') : CN P (.seq x y) m rd ds Φ fr w :=
 CN.seq_to (X := Unit) (fun _ => (T, .bool (@decide Q (Classical.propDecidable Q))) :: fr) (fun _ w' => W w w')
  (CW.mono h1 fun e f w' hp => by
   cases e with
   | normal =>
    obtain ⟨⟨b, hb, hq⟩, hw, hl⟩ := hp
    have hbq : b = @decide Q (Classical.propDecidable Q) := by
     by_cases h : Q
     ·
      rw [hq.2 h, @decide_eq_true Q (Classical.propDecidable Q) h]
     ·
      rw [@decide_eq_false Q (Classical.propDecidable Q) h]
      cases b with
      | true => exact absurd (hq.1 rfl) h
      | false => rfl
    exact ⟨(), Fr.le.cons (by rw [hb, hbq]) hl, hw⟩
   | _ => exact hp)
  (fun u w' hw => h2 w' hw)
theorem CN.seq_testE {P : Program} {m : Nat} {rd : Option Nat} {ds : List Deferred} {Φ : Exit → List Deferred → Fr → World → Prop} {fr : Fr} {w : World} {x y : Code} (T : Nat) (Q : Prop)
  (h1 : CW P x (m, ds, rd) (thenF (fun f w' => (∃ b, f.get T = some (.bool b) ∧ (b = true ↔ Q)) ∧ Ext w w' ∧ Fr.le fr f) (fun e f w => Φ e ds f w)) fr w)
  (h2 : ∀ w', Ext w w' → CN P y m rd ds Φ ((T, .bool (@decide Q (Classical.propDecidable Q))) :: fr) w') : CN P (.seq x y) m rd ds Φ fr w := CN.seq_testW Ext T Q h1 h2
theorem CN.seq_test {P : Program} {m : Nat} {rd : Option Nat} {ds : List Deferred} {Φ : Exit → List Deferred → Fr → World → Prop} {fr : Fr} {w : World} {x y : Code} (T : Nat) (Q : Prop)
  (h1 : CW P x (m, ds, rd) (thenF (fun f w' => (∃ b, f.get T = some (.bool b) ∧ (b = true ↔ Q)) ∧ w' = w ∧ Fr.le fr f) (fun e f w => Φ e ds f w)) fr w)
  (h2 : CN P y m rd ds Φ ((T, .bool (@decide Q (Classical.propDecidable Q))) :: fr) w) : CN P (.seq x y) m rd ds Φ fr w :=
 CN.seq_testW (fun w w' => w' = w) T Q h1 (fun w' hw => by subst hw; exact h2)
theorem Chg.putObj {S : Nat → Prop} {w : World} {r : Nat} (o : Obj) (h : S r) : Chg S w (w.putObj r o) :=
 ⟨rfl, rfl, rfl, by simp, fun k _ hn => World.putObj_heap_other (fun e => hn (e ▸ h)), Nat.le_refl _⟩
abbrev mark (D : Nat) : Deferred := { target := .collected D, args := #[] }
def IterC {σ α : Type} (P : Program) (gf : Nat) (lb : List Value) (w : World) (Setup : World → σ → World → Prop) (xs : σ → List α) (encs : α → List Value) (T0 : Nat → Prop) (Keep : σ → Nat → Nat → Prop) (At : σ → Nat → World → Prop) (Fin : World → Prop) : Prop :=
 ∀ (l : Nat) (w1 : World) (J : σ → Nat → World → Prop) (Jx : World → Prop), Ext w w1 →
  (∀ s V, Chg T0 w1 V → Setup w1 s V → J s 0 V) →
  (∀ s i V V', J s i V → Chg T0 V V' → J s i V') →
  (∀ V V', Jx V → Chg T0 V V' → Jx V') →
  (∀ s i x V, J s i V → (xs s)[i]? = some x → At s i V →
   YieldAt (FX none) 0 P l (encs x).toArray V (fun e V' => ∃ b, e = .returned (.bool b) ∧ ((b = true ∧ J s (i + 1) V' ∧ Chg (fun k => ¬ Keep s i k) V V') ∨ (b = false ∧ Jx V' ∧ Chg (fun k => ¬ Keep s i k) V V')))) →
  Calls P gf (.func (.yield l) #[] #[] :: lb).toArray w1 (Ret fun _ V => ((∃ s, J s (xs s).length V) ∨ Jx V) ∧ Fin V)
def zipF : List Nat → List Value → Fr → Fr
 | p :: ps, v :: vs, f => zipF ps vs ((p, v) :: f)
 | _, _, f => f
theorem Rep.zip {m : Nat} {ds : List Deferred} {rd : Option Nat} : ∀ {ps : List Nat} {vs : List Value} {t : Array Value} {fr : Fr}, (∀ p ∈ ps, p < m) → Rep (m, ds, rd) { tmps := t, defers := ds } fr →
  Rep (m, ds, rd) { tmps := (ps.zip vs).foldl (fun t (p, v) => t.setIfInBounds p v) t, defers := ds } (zipF ps vs fr)
 | [], _, _, _, _, h => by simpa [zipF] using h
 | _ :: _, [], _, _, _, h => by simpa [zipF] using h
 | p :: ps, v :: vs, t, fr, hp, h => by
  have h1 := h.put (hp p (by simp)) v
  have := Rep.zip (ps := ps) (vs := vs) (t := t.setIfInBounds p v) (fr := (p, v) :: fr) (fun q hq => hp q (by simp [hq])) h1
  simpa [zipF] using this
@[reducible] def RoundF (l D : Nat) (Kp : Nat → Prop) (I' : World → Prop) (Ix : Exit → World → Prop) (V2 : World) : Exit → Fr → World → Prop
 | .normal, _, V3 => I' V3 ∧ Chg (fun k => ¬ Kp k ∧ k ≠ l ∧ k ≠ D) V2 V3
 | .ret, _, V3 => Ix .ret V3 ∧ Chg (fun k => ¬ Kp k ∧ k ≠ l ∧ k ≠ D) V2 V3
 | .exit id, _, V3 => Ix (.exit id) V3 ∧ Chg (fun k => ¬ Kp k ∧ k ≠ l ∧ k ≠ D) V2 V3
 | .goto t, _, V3 => Ix (.goto t) V3 ∧ Chg (fun k => ¬ Kp k ∧ k ≠ l ∧ k ≠ D) V2 V3
 | _, _, _ => False
theorem CN.range {P : Program} {m : Nat} {ds : List Deferred} {Φ : Exit → List Deferred → Fr → World → Prop} {fr : Fr} {w : World} {σ α : Type} {g : Operand} {ps : List Nat} {assign body : Code} {gf : Nat} {lb : List Value} {fn : Func}
  {Setup : World → σ → World → Prop} {xs : σ → List α} {encs : α → List Value} {T0 : Nat → Prop} {Keep : σ → Nat → Nat → Prop} {At : σ → Nat → World → Prop} {Fin : World → Prop}
  (hg : ev fr g = some (.func (.func gf) #[] lb.toArray)) (hf : P.funcs[gf]? = some fn) (hb : fn.body.isNone = false) (hn : (fn.name == "runtime.NumGoroutine") = false)
  (hit : IterC P gf lb w Setup xs encs T0 Keep At Fin) (hps : ∀ x, (encs x).length = ps.length) (hpm : ∀ p ∈ ps, p < m)
  (hT0 : ∀ k, T0 k → k < w.heap.size) (hK : ∀ w1 s V, w.heap.size + 2 ≤ w1.heap.size → Setup w1 s V → ∀ i, ¬ Keep s i (w.heap.size + 1))
  (I : σ → Nat → World → Prop) (Ix : σ → Exit → World → Prop)
  (h0 : ∀ w1 s V, Ext w w1 → w.heap.size + 2 ≤ w1.heap.size → Chg T0 w1 V → Setup w1 s V → I s 0 V)
  (hI : ∀ s i V V', I s i V → Chg (fun k => T0 k ∨ k = w.heap.size + 1) V V' → I s i V')
  (hIx : ∀ s e V V', Ix s e V → Chg (fun k => T0 k ∨ k = w.heap.size + 1) V V' → Ix s e V')
  (hround : ∀ s i x V, I s i V → (xs s)[i]? = some x → At s i V → w.heap.size + 2 ≤ V.heap.size →
   CW P assign (m, [], some (w.heap.size + 1)) (thenF (fun f V1 => Ext V V1 ∧ ∀ V2, Chg (fun k => k = w.heap.size + 1) V1 V2 →
    CW P body (m, [], some (w.heap.size + 1)) (RoundF (w.heap.size + 1) w.heap.size (Keep s i) (I s (i + 1)) (Ix s) V2) f V2) (fun _ _ _ => False)) (zipF ps (encs x) fr) V)
  (hdone : ∀ s V, I s (xs s).length V → V.heap[w.heap.size]? = some (.deferred (some [])) → (∃ V0, Fin V0 ∧ Chg (fun k => k = w.heap.size + 1) V0 V) → Φ .normal (mark w.heap.size :: ds) fr V)
  (hleave : ∀ s e V, Ix s e V → V.heap[w.heap.size]? = some (.deferred (some [])) → (∃ V0, Fin V0 ∧ Chg (fun k => k = w.heap.size + 1) V0 V) → e = .ret ∨ (∃ id, e = .exit id) ∨ (∃ t, e = .goto t) → Φ e (mark w.heap.size :: ds) fr V) :
  CN P (.rangeFunc g ps.toArray assign body) m none ds Φ fr w := by
 intro a ha
 refine wpIn_rangeFunc fun fn0 _ => ?_
 obtain ⟨rec, hrec⟩ : ∃ rec : LoopState → Option Code → Loop, rec = fun st pe => { state := st, pending := pe, fn := fn0, tmps := a.tmps, params := ps.toArray, assign, body, defers := w.heap.size } := ⟨_, rfl⟩
 obtain ⟨W1, hW1⟩ : ∃ W1, (w.alloc (.deferred (some []))).alloc (.loop (rec .ready none)) = W1 := ⟨_, rfl⟩
 have hx1 : Ext w W1 := by rw [← hW1]; exact (Chg.alloc _).trans (Chg.alloc (S := fun _ => False) _) (fun _ _ f => f)
 have hz1 : W1.heap.size = w.heap.size + 2 := by rw [← hW1]; simp
 have hL1 : W1.heap[w.heap.size + 1]? = some (.loop (rec .ready none)) := by
  rw [← hW1]; have := World.alloc_heap_new (w.alloc (.deferred (some []))) (.loop (rec .ready none)); rwa [World.size_alloc] at this
 have hD1 : W1.heap[w.heap.size]? = some (.deferred (some [])) := by
  rw [← hW1]; exact (Below.heap_alloc _ _ _ (by simp)).trans (World.alloc_heap_new w _)
 refine ⟨w.heap.size + 1, [mark w.heap.size], W1, { target := .fn (.func gf) lb.toArray, args := #[.func (.yield (w.heap.size + 1)) #[] #[]] }, W1, gf,
  #[.func (.yield (w.heap.size + 1)) #[] #[]] ++ lb.toArray, W1, ?_, ?_, fun _ _ => trivial, ?_, fun hx => (by simp [FX] at hx), ?_⟩
 ·
  rw [← hW1, hrec]; exact run_enterLoop_outer _ _ _ _ _
 ·
  have e := ha.ev hg
  simp only [resolve, e]
  simp [Deferred.ofValue, Act.eval]
 ·
  simp [invoke, run_callFunc hf hb hn]
 ·
  refine callsIn_FX.2 ?_
  have hdef : ∀ V : World, (a.defers = ds) → Rep (m, mark w.heap.size :: ds, none) { a with defers := mark w.heap.size :: a.defers } fr := fun V hd => ⟨ha.size, by rw [hd], ha.get⟩
  have hend : ∀ (st : LoopState) (pe : Option Code) (V : World), st ≠ .busy → V.heap[w.heap.size + 1]? = some (.loop (rec st pe)) →
    (Instr.endLoop (w.heap.size + 1)).run P V = .ok pe (V.putObj (w.heap.size + 1) (.loop (rec .exhausted pe))) := fun st pe V hs hv => by
   have := run_endLoop (P := P) hv (by rw [hrec]; exact hs)
   rw [hrec] at this ⊢
   exact this
  have key := hit (w.heap.size + 1) W1
   (fun s i V => I s i V ∧ V.heap[w.heap.size + 1]? = some (.loop (rec .ready none)) ∧ V.heap[w.heap.size]? = some (.deferred (some [])) ∧ w.heap.size + 2 ≤ V.heap.size ∧ ∀ i, ¬ Keep s i (w.heap.size + 1))
   (fun V => ∃ s e c, Ix s e V ∧ V.heap[w.heap.size + 1]? = some (.loop (rec .done (some c))) ∧ V.heap[w.heap.size]? = some (.deferred (some [])) ∧ w.heap.size + 2 ≤ V.heap.size ∧
    ((e = .ret ∧ c = .ret) ∨ (∃ id, e = .exit id ∧ c = .exit id) ∨ (∃ t, e = .goto t ∧ c = .goto t))) hx1
   (fun s V hc hs => ⟨h0 W1 s V hx1 om_ hc hs, (hc.block _ om_ (fun h => by have := hT0 _ h; omega)).trans hL1, (hc.block _ om_ (fun h => by have := hT0 _ h; omega)).trans hD1, by have := hc.size; omega, hK W1 s V om_ hs⟩)
   (fun s i V V' hJ hc => ⟨hI s i V V' hJ.1 (hc.mono fun _ _ h => .inl h), (hc.block _ om_ (fun h => by have := hT0 _ h; omega)).trans hJ.2.1, (hc.block _ om_ (fun h => by have := hT0 _ h; omega)).trans hJ.2.2.1, by have := hc.size; omega, hJ.2.2.2.2⟩)
   (fun V V' hJ hc => by
    obtain ⟨s, e, c, h1, h2, h3, h4, h5⟩ := hJ
    exact ⟨s, e, c, hIx s e V V' h1 (hc.mono fun _ _ h => .inl h), (hc.block _ om_ (fun h => by have := hT0 _ h; omega)).trans h2, (hc.block _ om_ (fun h => by have := hT0 _ h; omega)).trans h3, by have := hc.size; omega, h5⟩)
   (fun s i x V hJ hx hAt => by
    obtain ⟨hi, hl, hD, hz, hk⟩ := hJ
    have hy := run_yield (P := P) (args := (encs x).toArray) hl (by rw [hrec]; simp [hps x])
    rw [hrec] at hy
    refine ⟨fn0, _, assign, body, hy, roundIn_of_wpIn trivial ?_⟩
    have hrep : Rep (m, [], some (w.heap.size + 1)) { tmps := (ps.toArray.zip (encs x).toArray).foldl (fun t (p, v) => t.setIfInBounds p v) a.tmps, defers := [] } (zipF ps (encs x) fr) := by
     have h1 : Rep (m, [], some (w.heap.size + 1)) { tmps := a.tmps, defers := [] } fr := ⟨ha.size, rfl, ha.get⟩
     have := Rep.zip (vs := encs x) hpm h1
     simpa using this
    refine wpIn_mono (hround s i x V hi hx hAt hz _ hrep) ?_
    rintro e a1 V1 ⟨f, hf1, hp⟩
    cases e with
    | normal =>
     obtain ⟨hx2, hbody⟩ := hp
     have hl1 := (hx2.block _ om_ (fun h => h)).trans hl
     have hD1 := (hx2.block _ om_ (fun h => h)).trans hD
     refine ⟨_, run_beginRound hl1 (by rw [hrec]), ?_⟩
     have hlt : w.heap.size + 1 < V1.heap.size := by have := hx2.size; omega
     have hl2 : (V1.putObj (w.heap.size + 1) (.loop { rec .ready none with state := .busy })).heap[w.heap.size + 1]? = some (.loop { rec .ready none with state := .busy }) := World.putObj_heap_same hlt
     have hD2 : (V1.putObj (w.heap.size + 1) (.loop { rec .ready none with state := .busy })).heap[w.heap.size]? = some (.deferred (some [])) := (World.putObj_heap_other om_).trans hD1
     have hc2 : Chg (fun k => k = w.heap.size + 1) V1 (V1.putObj (w.heap.size + 1) (.loop { rec .ready none with state := .busy })) := Chg.putObj _ rfl
     have fin : ∀ (jump : Option Code) (V3 : World), Chg (fun k => k ≠ w.heap.size + 1 ∧ k ≠ w.heap.size) (V1.putObj (w.heap.size + 1) (.loop { rec .ready none with state := .busy })) V3 →
       (Instr.endRound (w.heap.size + 1) jump).run P V3 = .ok (.bool jump.isNone) (V3.putObj (w.heap.size + 1) (.loop (rec (if jump.isNone then .ready else .done) jump))) ∧
       (V3.putObj (w.heap.size + 1) (.loop (rec (if jump.isNone then .ready else .done) jump))).heap[w.heap.size + 1]? = some (.loop (rec (if jump.isNone then .ready else .done) jump)) ∧
       (V3.putObj (w.heap.size + 1) (.loop (rec (if jump.isNone then .ready else .done) jump))).heap[w.heap.size]? = some (.deferred (some [])) ∧ w.heap.size + 2 ≤ (V3.putObj (w.heap.size + 1) (.loop (rec (if jump.isNone then .ready else .done) jump))).heap.size := fun jump V3 hk3 => by
      have hl3 := (hk3.block _ (Array.getElem?_eq_some_iff.1 hl2).1 (fun h => h.1 rfl)).trans hl2
      have hD3 := (hk3.block _ (Array.getElem?_eq_some_iff.1 hD2).1 (fun h => h.2 rfl)).trans hD2
      have hz3 := hk3.size
      have := run_endRound (P := P) jump hl3
      rw [hrec] at this ⊢
      refine ⟨this, World.putObj_heap_same (Array.getElem?_eq_some_iff.1 hl3).1, (World.putObj_heap_other om_).trans hD3, ?_⟩
      simp only [World.putObj_size] at hz3 ⊢
      have := hx2.size
      omega
     have chg : ∀ (V3 : World) (o : Obj), Chg (fun k => ¬ Keep s i k ∧ k ≠ w.heap.size + 1 ∧ k ≠ w.heap.size) (V1.putObj (w.heap.size + 1) (.loop { rec .ready none with state := .busy })) V3 → Chg (fun k => ¬ Keep s i k) V (V3.putObj (w.heap.size + 1) o) := fun V3 o hk3 =>
      ((hx2.chg.trans (hc2.mono (T := fun k => ¬ Keep s i k) fun k _ h => by rw [h]; exact hk i) (fun _ _ h => h)).trans (hk3.mono (T := fun k => ¬ Keep s i k) fun _ _ h => h.1) (fun _ _ h => h)).trans (Chg.putObj (S := fun k => ¬ Keep s i k) _ (hk i)) (fun _ _ h => h)
     refine wpIn_mono (hbody _ hc2 a1 hf1) ?_
     rintro e3 a3 V3 ⟨f3, hf3, hp3⟩
     cases e3 with
     | normal =>
      obtain ⟨hi3, hk3⟩ := hp3
      obtain ⟨hr, hl4, hD4, hz4⟩ := fin none V3 (hk3.mono fun _ _ h => ⟨h.2.1, h.2.2⟩)
      refine ⟨_, _, hr, true, rfl, .inl ⟨rfl, ⟨hI _ _ _ _ hi3 (Chg.putObj _ (.inr rfl)), hl4, hD4, hz4, hk⟩, ?_⟩⟩
      exact chg V3 _ hk3
     | ret =>
      obtain ⟨hi3, hk3⟩ := hp3
      obtain ⟨hr, hl4, hD4, hz4⟩ := fin (some .ret) V3 (hk3.mono fun _ _ h => ⟨h.2.1, h.2.2⟩)
      exact ⟨_, _, hr, false, rfl, .inr ⟨rfl, ⟨s, .ret, .ret, hIx _ _ _ _ hi3 (Chg.putObj _ (.inr rfl)), hl4, hD4, hz4, .inl ⟨rfl, rfl⟩⟩, chg V3 _ hk3⟩⟩
     | exit id =>
      obtain ⟨hi3, hk3⟩ := hp3
      obtain ⟨hr, hl4, hD4, hz4⟩ := fin (some (.exit id)) V3 (hk3.mono fun _ _ h => ⟨h.2.1, h.2.2⟩)
      exact ⟨_, _, hr, false, rfl, .inr ⟨rfl, ⟨s, .exit id, .exit id, hIx _ _ _ _ hi3 (Chg.putObj _ (.inr rfl)), hl4, hD4, hz4, .inr (.inl ⟨id, rfl, rfl⟩)⟩, chg V3 _ hk3⟩⟩
     | goto t =>
      obtain ⟨hi3, hk3⟩ := hp3
      obtain ⟨hr, hl4, hD4, hz4⟩ := fin (some (.goto t)) V3 (hk3.mono fun _ _ h => ⟨h.2.1, h.2.2⟩)
      exact ⟨_, _, hr, false, rfl, .inr ⟨rfl, ⟨s, .goto t, .goto t, hIx _ _ _ _ hi3 (Chg.putObj _ (.inr rfl)), hl4, hD4, hz4, .inr (.inr ⟨t, rfl, rfl⟩)⟩, chg V3 _ hk3⟩⟩
     | panic c => exact hp3.elim
     | outgrown => exact hp3.elim
    | exit id => exact hp.elim
    | goto t => exact hp.elim
    | ret => exact hp.elim
    | panic c => exact hp.elim
    | outgrown => exact hp.elim)
  have hlist : (Value.func (.yield (w.heap.size + 1)) #[] #[] :: lb).toArray = #[Value.func (.yield (w.heap.size + 1)) #[] #[]] ++ lb.toArray := by simp
  rw [hlist] at key
  refine key.mono ?_
  rintro e V hR
  cases e with
  | returned v =>
   obtain ⟨hR, hfin⟩ := hR
   rcases hR with ⟨s, hi, hl, hD, hz, _⟩ | ⟨s, e, c, hi, hl, hD, hz, hec⟩
   ·
    refine ⟨none, _, hend .ready none V (by simp) hl, _, fr, hdef V ha.defers, ?_⟩
    exact hdone s _ (hI _ _ _ _ hi (Chg.putObj _ (.inr rfl))) ((World.putObj_heap_other om_).trans hD) ⟨V, hfin, Chg.putObj _ rfl⟩
   ·
    refine ⟨some c, _, hend .done (some c) V (by simp) hl, ?_⟩
    have hi' := hIx _ _ _ _ hi (Chg.putObj (r := w.heap.size + 1) (.loop (rec .exhausted (some c))) (.inr rfl))
    have hD' : (V.putObj (w.heap.size + 1) (.loop (rec .exhausted (some c)))).heap[w.heap.size]? = some (.deferred (some [])) := (World.putObj_heap_other om_).trans hD
    have hw := hleave s e _ hi' hD' ⟨V, hfin, Chg.putObj _ rfl⟩ (by rcases hec with ⟨h, _⟩ | ⟨id, h, _⟩ | ⟨t, h, _⟩ <;> simp [h])
    rcases hec with ⟨rfl, rfl⟩ | ⟨id, rfl, rfl⟩ | ⟨t, rfl, rfl⟩
    ·
     exact wpIn_ret ⟨_, fr, hdef V ha.defers, hw⟩
    ·
     exact wpIn_exit ⟨_, fr, hdef V ha.defers, hw⟩
    ·
     exact wpIn_goto ⟨_, fr, hdef V ha.defers, hw⟩
  | panicked ch => exact hR.elim
  | outgrown => exact hR.elim
theorem def_chg {S : Nat → Prop} {w w' : World} {D : Nat} (h : w.heap[D]? = some (.deferred (some []))) (hc : Chg S w w') (hs : ¬ S D) : w'.heap[D]? = some (.deferred (some [])) := (hc.block D (Array.getElem?_eq_some_iff.1 h).1 hs).trans h
@[reducible] def EndN (ts : List Nat) (R : Value → World → Prop) (ds : List Deferred) (fr : Fr) (w : World) : Prop :=
 ∃ Ds : List Nat, ds = Ds.map mark ∧ Ds.Nodup ∧ (∀ D ∈ Ds, w.heap[D]? = some (.deferred (some []))) ∧ ∃ v, resV fr ts = some v ∧ ∀ w', Chg (fun k => k ∈ Ds) w w' → R v w'
@[reducible] def DoneN (ts : List Nat) (R : Value → World → Prop) : Exit → List Deferred → Fr → World → Prop
 | .normal, ds, fr, w => EndN ts R ds fr w
 | .ret, ds, fr, w => EndN ts R ds fr w
 | _, _, _, _ => False
theorem leaves_marks {P : Program} {fn : Func} {tmps : Array Value} {v : Value} (hv : ∀ w, (results fn tmps).run P w = .ok v w) {R : Value → World → Prop} : ∀ (Ds : List Nat) (w : World), Ds.Nodup → (∀ D ∈ Ds, w.heap[D]? = some (.deferred (some []))) →
  (∀ w', Chg (fun k => k ∈ Ds) w w' → R v w') → LeavesInM (FX none) 0 P fn tmps (Ret R) (Ds.map mark) .returning w
 | [], w, _, _, h => ⟨v, hv w, h w Chg.refl⟩
 | D :: Ds, w, hn, hD, h => by
  have hn' := List.nodup_cons.1 hn
  refine ⟨by simp, .inl ⟨D, w.putObj D (.deferred none), rfl, run_takeDeferred (hD D (by simp)), ?_⟩⟩
  refine leaves_marks hv Ds _ hn'.2 (fun E hE => (World.putObj_heap_other (fun e => hn'.1 (by rw [← e]; exact hE))).trans (hD E (List.mem_cons_of_mem _ hE))) fun w' hc => ?_
  exact h w' ((Chg.putObj (S := fun k => k ∈ D :: Ds) _ (by simp)).trans (hc.mono (T := fun k => k ∈ D :: Ds) fun k _ hk => List.mem_cons_of_mem _ hk) (fun _ _ h => h))
theorem calls_of_CN {P : Program} {w : World} {f : FuncId} {fn : Func} {c : Code} {args : List Value} {R : Value → World → Prop} (m : Nat) (ts : List Nat) (fr0 : Fr)
  (hf : P.funcs[f]? = some fn) (hb : fn.body = some c) (hm : fn.ntmps = m) (hr : fn.results = (ts.map ResultVar.tmp).toArray)
  (hsz : args.length ≤ m) (hargs : ∀ t v, fr0.get t = some v → args[t]? = some v)
  (h : CN P c m none [] (DoneN ts R) fr0 w) : Calls P f args.toArray w (Ret R) := by
 refine callsIn_FX.1 (callsIn_of_wp_marks (F := FX none) (n := 0) hf hb trivial ?_)
 have hrep : Rep (m, [], none) { tmps := args.toArray ++ Array.replicate (fn.ntmps - args.toArray.size) undef, defers := [] } fr0 := by
  refine ⟨by simp [hm]; omega, rfl, fun t v hv => ?_⟩
  have h1 := hargs t v hv
  have hlt : t < args.length := (List.getElem?_eq_some_iff.1 h1).1
  simpa [Array.getElem?_append, hlt] using (List.getElem?_eq_some_iff.1 h1).2
 refine wpIn_mono (h _ hrep) ?_
 rintro e a' w' ⟨ds', fr', hf', hp⟩
 have fin : EndN ts R ds' fr' w' → LeavesInM (FX none) 0 P fn a'.tmps (Ret R) a'.defers .returning w' := by
  rintro ⟨Ds, rfl, hnd, hD, v, hv, hR⟩
  have e : a'.defers = Ds.map mark := hf'.defers
  rw [e]
  exact leaves_marks (fun w => run_results hf' hr hv w) Ds w' hnd hD hR
 cases e with
 | normal => exact fin hp
 | ret => exact fin hp
 | exit id => exact hp
 | goto l => exact hp
 | panic ch => exact hp.elim
 | outgrown => exact hp.elim
@[reducible] def EndG (D : Fr → World → Prop) (ds : List Deferred) (fr : Fr) (w : World) : Prop :=
 ∃ Ds : List Nat, ds = Ds.map mark ∧ Ds.Nodup ∧ (∀ E ∈ Ds, w.heap[E]? = some (.deferred (some []))) ∧ ∀ w', Chg (fun k => k ∈ Ds) w w' → D fr w'
@[reducible] def DoneNG (D : Fr → World → Prop) : Exit → List Deferred → Fr → World → Prop
 | .normal, ds, fr, w => EndG D ds fr w
 | .ret, ds, fr, w => EndG D ds fr w
 | _, _, _, _ => False
theorem leaves_marksG {P : Program} {fn : Func} {tmps : Array Value} {D : World → Prop} {R : Value → World → Prop} (hv : ∀ w, D w → ∃ v, (results fn tmps).run P w = .ok v w ∧ R v w) : ∀ (Ds : List Nat) (w : World), Ds.Nodup → (∀ E ∈ Ds, w.heap[E]? = some (.deferred (some []))) →
  (∀ w', Chg (fun k => k ∈ Ds) w w' → D w') → LeavesInM (FX none) 0 P fn tmps (Ret R) (Ds.map mark) .returning w
 | [], w, _, _, h => hv w (h w Chg.refl)
 | E :: Ds, w, hn, hD, h => by
  have hn' := List.nodup_cons.1 hn
  refine ⟨by simp, .inl ⟨E, w.putObj E (.deferred none), rfl, run_takeDeferred (hD E (by simp)), ?_⟩⟩
  refine leaves_marksG hv Ds _ hn'.2 (fun F hF => (World.putObj_heap_other (fun e => hn'.1 (by rw [← e]; exact hF))).trans (hD F (List.mem_cons_of_mem _ hF))) fun w' hc => ?_
  exact h w' ((Chg.putObj (S := fun k => k ∈ E :: Ds) _ (by simp)).trans (hc.mono (T := fun k => k ∈ E :: Ds) fun k _ hk => List.mem_cons_of_mem _ hk) (fun _ _ h => h))
theorem calls_of_CNG {P : Program} {w : World} {f : FuncId} {fn : Func} {c : Code} {args : List Value} {R : Value → World → Prop} (m : Nat) (D : Fr → World → Prop) (fr0 : Fr)
  (hf : P.funcs[f]? = some fn) (hb : fn.body = some c) (hm : fn.ntmps = m) (hr : ∀ n a fr w, Rep n a fr → D fr w → ∃ v, (results fn a.tmps).run P w = .ok v w ∧ R v w)
  (hsz : args.length ≤ m) (hargs : ∀ t v, fr0.get t = some v → args[t]? = some v)
  (h : CN P c m none [] (DoneNG D) fr0 w) : Calls P f args.toArray w (Ret R) := by
 refine callsIn_FX.1 (callsIn_of_wp_marks (F := FX none) (n := 0) hf hb trivial ?_)
 have hrep : Rep (m, [], none) { tmps := args.toArray ++ Array.replicate (fn.ntmps - args.toArray.size) undef, defers := [] } fr0 := by
  refine ⟨by simp [hm]; omega, rfl, fun t v hv => ?_⟩
  have h1 := hargs t v hv
  have hlt : t < args.length := (List.getElem?_eq_some_iff.1 h1).1
  simpa [Array.getElem?_append, hlt] using (List.getElem?_eq_some_iff.1 h1).2
 refine wpIn_mono (h _ hrep) ?_
 rintro e a' w' ⟨ds', fr', hf', hp⟩
 have fin : EndG D ds' fr' w' → LeavesInM (FX none) 0 P fn a'.tmps (Ret R) a'.defers .returning w' := by
  rintro ⟨Ds, rfl, hnd, hD, hv⟩
  have e : a'.defers = Ds.map mark := hf'.defers
  rw [e]
  exact leaves_marksG (D := fun w => D fr' w) (fun w hw => hr _ _ _ _ hf' hw) Ds w' hnd hD hv
 cases e with
 | normal => exact fin hp
 | ret => exact fin hp
 | exit id => exact hp
 | goto l => exact hp
 | panic ch => exact hp.elim
 | outgrown => exact hp.elim
end Go.Fw
/- A store gone over: names, All and its closure, walked. No condition. -/
namespace Go.Proofs.YtfanmpbapabboaaDoor
open Go.RowKit Go.Fw Go.Pl Go.Sort
def namesL (l : List Ent) : List Dig := sortedD (l.map Ent.k)
theorem sortedD_perm {a b : List Dig} (h : a.Perm b) (hn : a.Nodup) : sortedD a = sortedD b :=
 up_eq (sortedD_up hn) (sortedD_up (h.nodup_iff.1 hn)) fun x => by rw [sortedD_mem, sortedD_mem]; exact h.mem_iff
theorem namesL_perm {a b : List Ent} (h : a.Perm b) (hn : Unlike b) : namesL a = namesL b := sortedD_perm (h.map _) ((h.map Ent.k).nodup_iff.2 hn)
theorem namesL_up {l : List Ent} (h : Unlike l) : Up (namesL l) := sortedD_up h
theorem namesL_mem {l : List Ent} {d : Dig} : d ∈ namesL l ↔ ∃ e ∈ l, e.k = d := by unfold namesL; rw [sortedD_mem, List.mem_map]
theorem namesL_length (l : List Ent) : (namesL l).length = l.length := by unfold namesL; rw [sortedD_length, List.length_map]
theorem names1_any (a b : Dig) (w : World) : Calls Tryd.prog 46 #[digV a, digV b] w (Ret fun v w' => v = .int .i64 (cfD a b) ∧ Ext w w') := by
 refine calls_of_CW 8 [4] [(0, digV a), (1, digV b)] Tryd.func46 rfl rfl rfl (by simp) args2 ?_
 have hE : Ext w w := Chg.refl
 refine CW.sr fun K1 hK1 => ?_
 refine WL.box rfl rfl de_ fun g2 w1 hx1 hg2 hB2 => ?_
 have hlt2 := hB2.lt; have hz1 := hx1.size
 have hM2 := hB2.mem; have hz1 := hx1.size; have hE := hE.thenExt hx1
 refine WL.box rfl rfl de_ fun g3 w2 hx2 hg3 hB3 => ?_
 have hlt3 := hB3.lt; have hz2 := hx2.size
 have hM3 := hB3.mem; have hz2 := hx2.size; have hE := hE.thenExt hx2; have hB2 := hB2.ext hx2
 refine WL.a rfl ?_
 refine WL.nil (hK1 _ _ ?_); try clear hK1
 refine CW.seq fun K2 hK2 => ?_
 refine CW.sr fun K3 hK3 => ?_
 refine WL.v (Y.load Tryd.underlying30 rfl hB2.mem (sz_apiDigest _) rfl) ?_
 refine WL.v (Y.load Tryd.underlying30 rfl hB3.mem (sz_apiDigest _) rfl) ?_
 refine WL.call Tryd.func47 rfl rfl rfl (less_any _ _ _) (by simp) ?_; rintro v w3 ⟨rfl, hx3⟩; have hz3 := hx3.size; have hE := hE.thenExt hx3; have hB2 := hB2.ext hx3; have hB3 := hB3.ext hx3
 refine WL.nil (hK3 _ _ ?_); try clear hK3
 (first | refine cd_ rfl ?_ ?_ | refine ce_ rfl ?_ ?_ | refine cn_ rfl ?_ ?_ | refine cb_ rfl ?_ ?_) <;> intro ht4
 ·
  -- then
  refine CW.sr fun K5 hK5 => ?_
  refine WL.a rfl ?_
  refine WL.nil (hK5 _ _ ?_); try clear hK5
  refine CW.ret ⟨_, rfl, ?_⟩
  exact ⟨by rw [cfD, if_pos (by assumption)], hE⟩
 refine CW.skip ?_
 refine hK2 _ _ ?_; try clear hK2
 refine CW.sr fun K6 hK6 => ?_
 refine WL.a rfl ?_
 refine WL.nil (hK6 _ _ ?_); try clear hK6
 refine CW.ret ⟨_, rfl, ?_⟩
 exact ⟨by rw [cfD, if_neg (by simp [*])], hE⟩
set_option maxRecDepth 20000 in
theorem snames_any (g r : Nat) (l : List Ent) (w : World) (hT : StoreAt w g r l) : Calls Tryd.prog 27 #[.pointer (some ⟨g, 0, none⟩)] w (Ret fun v w' => Own w' TDg 32 v (flatD (namesL l)) ∧ (∀ k, v.ownBlock = some k → w.heap.size ≤ k) ∧ Ext w w') := by
 have hB0 := hT.blk
 have hfew := hT.few
 obtain ⟨cl, hmap, hold⟩ := hT.map
 have hMp := hmap
 have hlt0 := hT.lt
 refine calls_of_CW 23 [2] [(0, .pointer (some ⟨g, 0, none⟩))] Tryd.func27 rfl rfl rfl (by simp) args1 ?_
 have hE : Ext w w := Chg.refl
 refine CW.sr fun K1 hK1 => ?_
 refine WL.a rfl ?_
 refine WL.nil (hK1 _ _ ?_); try clear hK1
 refine CW.sr fun K2 hK2 => ?_
 refine WL.a rfl ?_
 refine WL.nil (hK2 _ _ ?_); try clear hK2
 refine CW.seq_to (X := Value × List Ent) (fun u => [(3, u.1)]) (fun u w0 => Own w0 TDg 32 u.1 (flatD (u.2.map Ent.k)) ∧ (∀ k, u.1.ownBlock = some k → w.heap.size ≤ k) ∧ Ext w w0 ∧ u.2.Perm l) ?_ ?_
 ·
  skip
  refine CW.sr fun K4 hK4 => ?_
  refine WL.m rfl ?_
  refine WL.call Tryd.func23 rfl rfl rfl (made_any g r l _ hT) (by simp) ?_; rintro v w1 ⟨rfl, hx1⟩; have hz1 := hx1.size; have hE := hE.thenExt hx1; have hB0 := hB0.ext hx1; have hMp := hMp.ext hx1
  refine WL.nil (hK4 _ _ ?_); try clear hK4
  (first | refine cd_ rfl ?_ ?_ | refine ce_ rfl ?_ ?_ | refine cn_ rfl ?_ ?_ | refine cb_ rfl ?_ ?_) <;> intro ht5
  ·
   -- then
   refine CW.sr fun K6 hK6 => ?_
   refine WL.m rfl ?_
   refine WL.v (Y.nilCheck rfl) ?_
   refine WL.v (Y.fieldAddr fo_storeStore0 rfl) ?_
   refine WL.v (Y.load1 Tryd.underlying64 rfl hB0.mem.storeStore0 rfl) ?_
   refine WL.st (St.range Tryd.underlying64 rfl hMp hold hT.born) de_ fun v11 w2 hR2 => ?_
   obtain ⟨r11, rfl, hr11, hG, hx2⟩ := hR2
   have hz2 := hx2.size
   have hE := hE.thenExt hx2
   have hltr := hG.lt
   refine WL.nil (hK6 _ _ ?_); try clear hK6
   refine CW.block ?_
   refine CW.loop (X := Value × List Ent) (fun x => [(3, x.1), (11, .pointer (some ⟨r11, 0, none⟩))]) (fun x w0 => Own w0 TDg 32 x.1 (flatD (x.2.map Ent.k)) ∧ (∀ k, x.1.ownBlock = some k → w2.heap.size ≤ k) ∧ Ext w w0 ∧ w2.heap.size ≤ w0.heap.size ∧ Going w0 r11 r Ent.me l cl x.2) (fun x => l.length - x.2.length) (.slice none 0 0, []) Fr.ok ⟨Own.nil, (fun k h => by simp [Value.ownBlock] at h), hE, Nat.le_refl _, hG⟩ ?_
   intro x w3 hl3
   obtain ⟨u, vs⟩ := x
   dsimp only at hl3 ⊢
   obtain ⟨hO, hfu, hE, hz3, hG⟩ := hl3
   obtain ⟨B, mb, cb, rfl⟩ := hO.lens
   have hltg := hG.lt
   have hB0 := hT.blk.ext hE
   have hMp := hmap.ext hE
   refine CW.sr fun K7 hK7 => ?_
   refine WL.st (St.next rfl hG) de_ fun v12 w4 hR4 => ?_
   obtain ⟨bt, rest, rfl, hc4, hcase⟩ := hR4
   have hz4 := hc4.size
   have hE := hE.step hc4 (fun k h => by omega)
   have hO := hO.chg hc4 (fun k hk h => by have := hfu k hk; omega)
   have hB0 := hB0.chg hc4 no_
   have hMp := hMp.chg hc4 no_
   refine WL.v (Y.extractT rfl) ?_
   refine WL.nil (hK7 _ _ ?_); try clear hK7
   refine CW.seq fun K8 hK8 => ?_
   (first | refine cd_ rfl ?_ ?_ | refine ce_ rfl ?_ ?_ | refine cn_ rfl ?_ ?_ | refine cb_ rfl ?_ ?_) <;> intro ht9
   ·
    -- then
    refine CW.skip ?_
    refine hK8 _ _ ?_; try clear hK8
    obtain ⟨e, hel, hev, hG⟩ : ∃ e, e ∈ l ∧ e ∉ vs ∧ Going w4 r11 r Ent.me l cl (vs ++ [e]) := by
     rcases hcase with ⟨_, h⟩ | ⟨h, _⟩
     ·
      exact h
     ·
      rw [h] at ht9; cases ht9
    refine CW.block ?_
    refine CW.sr fun K10 hK10 => ?_
    refine WL.v (Y.entry rfl hG) ?_
    refine WL.v (Y.extract rfl rfl) ?_
    refine as_apiDigest rfl (by simp) de_ fun g4 w5 hx5 hg4 hB4 => ?_
    have hlt4 := hB4.lt; have hz5 := hx5.size
    have hM4 := hB4.mem; have hz5 := hx5.size; have hE := hE.thenExt hx5; have hB0 := hB0.ext hx5; have hMp := hMp.ext hx5
    refine WL.nil (hK10 _ _ ?_); try clear hK10
    refine CW.region ?_
    refine WL.m rfl ?_
    refine WL.v (Y.load Tryd.underlying30 rfl hB4.mem (sz_apiDigest _) rfl) ?_
    refine WL.st (St.buildSlice rfl (bs1_dig _)) de_ fun v18 w6 hR6 => ?_
    obtain ⟨g18, rfl, hg18, hB18, hx6⟩ := hR6
    have hz6 := hx6.size
    have hE := hE.thenExt hx6
    have hfl := hG.few
    rw [List.length_append, List.length_singleton] at hfl
    refine WL.st (St.append Tryd.underlying23 Tryd.underlying23 ai_dig rfl rfl (hO.ext (hx5.thenExt hx6)) (Src.one hB18 (digC_length _)) one_digC (by rw [flat_length digC_length, List.length_map]; omega)) de_ fun v19 w7 hR7 => ?_
    obtain ⟨hO7, hc7, hf7⟩ := hR7
    have hz7 := hc7.size
    have hE := hE.step hc7 (fun k h => by have := hfu k h; omega)
    have hf7 : ∀ k, v19.ownBlock = some k → w2.heap.size ≤ k := by
     rcases hf7 with h | h
     ·
      intro k hk; rw [h] at hk; exact hfu k hk
     ·
      intro k hk; have := h k hk; omega
    have hG := (hG.ext (hx5.thenExt hx6)).chg hc7 (fun h => by have := hfu _ h; omega) (fun h => by have := hfu _ h; omega)
    refine WL.a rfl ?_
    refine WL.nil ?_
    refine ⟨(v19, vs ++ [e]), by show l.length - (vs ++ [e]).length < l.length - vs.length; rw [List.length_append, List.length_singleton]; omega, Fr.ok, ?_, hf7, hE, by omega, hG⟩
    show Own _ _ _ _ (flatD ((vs ++ [e]).map Ent.k))
    simpa [flatD] using hO7
   refine CW.exit ?_
   rcases hcase with ⟨h, _⟩ | ⟨_, hall, hG⟩
   ·
    rw [h] at ht9; cases ht9
   exact ⟨(.slice B mb cb, vs), Fr.ok, hO, (fun k hk => by have := hfu k hk; omega), hE, hG.perm hall⟩
  refine CW.skip ?_
  exact absurd (show true = false by assumption) de_
 rintro u w8 hj8
 obtain ⟨u, vs⟩ := u
 dsimp only at hj8 ⊢
 obtain ⟨hO, hfu, hE, hperm⟩ := hj8
 obtain ⟨B, mb, cb, rfl⟩ := hO.lens
 have hlenp := hperm.length_eq
 refine CW.sr fun K11 hK11 => ?_
 refine WL.m rfl ?_
 refine WL.call Tryd.func45 rfl rfl rfl (sort_gen cfD lt_cfD Tryd.func46 rfl rfl names1_any _ _ _ _ _ hO (by rw [List.length_map]; omega)) (by simp) ?_; rintro v21 w9 hR9
 obtain ⟨rfl, hO9, hc9⟩ := hR9
 have hz9 := hc9.size
 have hE := hE.step hc9 (fun k h => by have := hfu k h; omega)
 refine WL.nil (hK11 _ _ ?_); try clear hK11
 refine CW.sr fun K12 hK12 => ?_
 refine WL.m rfl ?_
 refine WL.a rfl ?_
 refine WL.nil (hK12 _ _ ?_); try clear hK12
 refine CW.ret ⟨_, rfl, ?_⟩
 exact ⟨by rw [← namesL_perm hperm hT.keys]; exact hO9, hfu, hE⟩
end Go.Proofs.YtfanmpbapabboaaDoor
