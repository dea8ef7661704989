/- Parts of a proof: what its last text leans on. No condition. -/
import Derived.RangeFuncSeq
import Derived.Test.YtmehkigmnpjcjaaDoorK02
import Derived.Test.YtmehkigmnpjcjaaDoorK03
import Derived.Test.YtmehkigmnpjcjaaDoorK09
set_option linter.unusedSimpArgs false
set_option linter.unusedVariables false
/- Ranges over functions: regions with a call of yield, what an iterator promises, the statement, a function that holds one. No condition; no program. -/
namespace Go.Fw
open Go.RowKit
def HL (P : Program) (ops : Array Oper) (w : World) (n : NN) (Ψ : Fr → Prop) (l : List Oper) (fr : Fr) : Prop :=
 ∀ a, Rep n a fr → wpStill P ops w (fun a' => ∃ f, Rep n a' f ∧ Ψ f) l a
def WI (P : Program) (ops : Array Oper) (n : NN) (Φ : Exit → Fr → World → Prop) (l : List Oper) (fr : Fr) (w : World) : Prop :=
 ∀ a, Rep n a fr → wpListIn (FX n.2.2) 0 P ops (lift n Φ) l a w
theorem roundIn_FX {rd : Option Nat} {k l : Nat} {P : Program} {f : FuncId} {tmps : Array Value} {assign body : Code} {w : World} {R : Ending → World → Prop} (h : RoundIn (FX none) 0 P l f tmps assign body w R) : RoundIn (FX rd) k P l f tmps assign body w R :=
 ⟨trivial, fun c cs _ => h.2 c cs (room_FX _)⟩
section
variable {P : Program} {n : NN} {Φ : Exit → Fr → World → Prop} {fr : Fr} {w : World} {ops : Array Oper} {rest : List Oper} {Ψ : Fr → Prop}
theorem HL.nil (h : Ψ fr) : HL P ops w n Ψ [] fr := fun _ ha => ⟨fr, ha, h⟩
theorem HL.val {d : Nat} {o : Op} {ty : TypeId} {pos : String} {aft : Array Edge} {v : Value} (hy : Yw P n fr o ty w v w) (hd : d < n.1) (h : HL P ops w n Ψ rest ((d, v) :: fr)) :
  HL P ops w n Ψ (⟨some d, o, ty, pos, aft, none⟩ :: rest) fr := fun a ha =>
 wpStill_step fun K hK => by
  rw [if_pos (by simp [Region.wanted])]
  unfold Oper.still
  rw [hy a _ rfl rfl ha]
  exact ⟨rfl, hK _ (h _ (ha.put hd v))⟩
theorem HL.gval {d j dj : Nat} {b : Bool} {o : Op} {ty : TypeId} {pos : String} {aft : Array Edge} {v : Value}
  (hj : (ops[j]?).bind (·.dst) = some dj) (hg : fr.get dj = some (.bool b)) (hy : Yw P n fr o ty w v w) (hd : d < n.1) (h : HL P ops w n Ψ rest ((d, v) :: fr)) :
  HL P ops w n Ψ (⟨some d, o, ty, pos, aft, some (j, b)⟩ :: rest) fr := fun a ha =>
 wpStill_step fun K hK => by
  rw [if_pos (by simp [Region.wanted, yielded_eq ha hj hg])]
  unfold Oper.still
  rw [hy a _ rfl rfl ha]
  exact ⟨rfl, hK _ (h _ (ha.put hd v))⟩
theorem HL.goff {d j dj : Nat} {b : Bool} {o : Op} {ty : TypeId} {pos : String} {aft : Array Edge}
  (hj : (ops[j]?).bind (·.dst) = some dj) (hg : fr.get dj = some (.bool (!b))) (hd : d < n.1) (h : HL P ops w n Ψ rest ((d, undef) :: fr)) :
  HL P ops w n Ψ (⟨some d, o, ty, pos, aft, some (j, b)⟩ :: rest) fr := fun a ha =>
 wpStill_step fun K hK => by
  rw [if_neg (by simp [Region.wanted, yielded_eq ha hj hg])]
  exact hK _ (h _ (ha.put hd undef))
theorem HL.goffU {d j dj : Nat} {b : Bool} {o : Op} {ty : TypeId} {pos : String} {aft : Array Edge}
  (hj : (ops[j]?).bind (·.dst) = some dj) (hg : fr.get dj = some undef) (hd : d < n.1) (h : HL P ops w n Ψ rest ((d, undef) :: fr)) :
  HL P ops w n Ψ (⟨some d, o, ty, pos, aft, some (j, b)⟩ :: rest) fr := fun a ha =>
 wpStill_step fun K hK => by
  rw [if_neg (by simp [Region.wanted, yielded_undef ha hj hg])]
  exact hK _ (h _ (ha.put hd undef))
theorem HL.cases {l : List Oper} {d : Nat} {c : Bool} (hg : fr.get d = some (.bool c))
  (ht : c = true → HL P ops w n Ψ l ((d, .bool true) :: fr)) (hf : c = false → HL P ops w n Ψ l ((d, .bool false) :: fr)) : HL P ops w n Ψ l fr := by
 intro a ha
 cases c with
 | true => exact ht rfl a (ha.weaken (Fr.le.cons hg Fr.le.refl))
 | false => exact hf rfl a (ha.weaken (Fr.le.cons hg Fr.le.refl))
theorem HL.casesD {l : List Oper} {d : Nat} {p : Prop} {inst : Decidable p} (hg : fr.get d = some (.bool (@decide p inst)))
  (ht : p → HL P ops w n Ψ l ((d, .bool true) :: fr)) (hf : ¬ p → HL P ops w n Ψ l ((d, .bool false) :: fr)) : HL P ops w n Ψ l fr :=
 HL.cases hg (fun h => ht (@of_decide_eq_true p inst h)) (fun h => hf (@of_decide_eq_false p inst h))
theorem HL.casesND {l : List Oper} {d : Nat} {p : Prop} {inst : Decidable p} (hg : fr.get d = some (.bool (!@decide p inst)))
  (ht : ¬ p → HL P ops w n Ψ l ((d, .bool true) :: fr)) (hf : p → HL P ops w n Ψ l ((d, .bool false) :: fr)) : HL P ops w n Ψ l fr :=
 HL.cases hg (fun h => ht (@of_decide_eq_false p inst (by simpa using h))) (fun h => hf (@of_decide_eq_true p inst (by simpa using h)))
theorem WI.nil (h : Φ .normal fr w) : WI P ops n Φ [] fr w := fun _ ha => wpListIn_nil ⟨fr, ha, h⟩
theorem WI.val {d : Nat} {o : Op} {ty : TypeId} {pos : String} {aft : Array Edge} {v : Value} {w' : World}
  (hy : Yw P n fr o ty w v w') (hd : d < n.1) (h : WI P ops n Φ rest ((d, v) :: fr) w') (hnd : ∀ c, o ≠ .defer c := by intro c h; cases h) : WI P ops n Φ (⟨some d, o, ty, pos, aft, none⟩ :: rest) fr w := fun a ha => by
 unfold wpListIn
 rw [if_pos (by simp [Region.wanted])]
 refine wpIn_of_wp hnd ?_
 unfold Oper.wp
 rw [hy a _ rfl rfl ha]
 exact h _ (ha.put hd v)
theorem WI.yield {d t l : Nat} {args : List Operand} {tys : Array TypeId} {ty : TypeId} {pos : String} {aft : Array Edge} {vs : List Value} {R : Bool → World → Prop}
  (ht : fr.get t = some (.func (.yield l) #[] #[])) (he : evs fr args = some vs) (hY : YieldAt (FX none) 0 P l vs.toArray w (fun e w' => ∃ b, e = .returned (.bool b) ∧ R b w')) (hd : d < n.1)
  (h : ∀ b w', R b w' → WI P ops n Φ rest ((d, .bool b) :: fr) w') : WI P ops n Φ (⟨some d, .call { callee := .value (.tmp t), args := args.toArray, argTypes := tys }, ty, pos, aft, none⟩ :: rest) fr w := fun a ha => by
 unfold wpListIn
 rw [if_pos (by simp [Region.wanted])]
 obtain ⟨fn, tmps, assign, body, hy, hR⟩ := hY
 have hrun : (execOp a.eval ⟨some d, .call { callee := .value (.tmp t), args := args.toArray, argTypes := tys }, ty, pos, aft, none⟩).run P w = .ok (.round l fn tmps assign body) w := by
  have h1 := ha.evs he
  have h2 : a.eval (.tmp t) = .func (.yield l) #[] #[] := ha.ev (x := .tmp t) ht
  simp [execOp, resolve, invoke, Deferred.ofValue, h2, h1, hy]
 refine ⟨fun _ _ => trivial, ?_⟩
 rw [Oper.semAt_eq _ _ _ (by intro c hc; cases hc), hrun]
 refine ⟨fun hx => by simp [FX] at hx, (roundIn_FX hR).mono fun e w' he => ?_⟩
 obtain ⟨b, rfl, hb⟩ := he
 exact h b w' hb _ (ha.put hd _)
theorem stOp_wpOpIn {rd : Option Nat} {l : List Oper} (hd : noDefer l = true) {i : Nat} {a : Act} {K : Act → Prop} {K' : Act → World → Prop} {Q' : Exit → Act → World → Prop} (h : ∀ a, K a → K' a w) (hh : stOp P l.toArray w i K a) : wpOpIn (FX rd) 0 P l.toArray Q' i K' a w := by
 unfold stOp at hh
 unfold wpOpIn
 split
 ·
  rename_i ho; simp only [ho] at hh; exact h _ hh
 ·
  rename_i o ho
  simp only [ho] at hh
  split
  ·
   rename_i hw
   simp only [hw, if_true] at hh
   exact wpIn_of_wp (noDefer_at hd (by simpa using ho)) (Oper.wp_of_still h hh)
  ·
   rename_i hw; simp only [hw] at hh; exact ⟨fun _ _ => trivial, h _ hh⟩
theorem wpAnyIn_head {rd : Option Nat} {l : List Oper} (hd : noDefer l = true) {k g : Nat} {L : Array Bool → Act → Prop} {Q' : Exit → Act → World → Prop} (hL : ∀ listed a, L listed a → wpAnyIn (FX rd) 0 P .any l.toArray Q' g listed a w) :
  ∀ (f : Nat) (listed : Array Bool) (a : Act), wpAnyL P .any l.toArray w k L f listed a → wpAnyIn (FX rd) 0 P .any l.toArray Q' (f + g) listed a w
 | 0, listed, a, h => by rw [Nat.zero_add]; exact hL _ _ h
 | f + 1, listed, a, h => by
  rw [show f + 1 + g = (f + g) + 1 by omega]
  exact ⟨fun h0 => absurd h0 h.1, fun i hi => stOp_wpOpIn hd (fun a' h' => wpAnyIn_head hd hL f _ a' h') (h.2 i hi).2⟩
theorem wpAnyIn_seq {rd : Option Nat} {ops : Array Oper} {Q' : Exit → Act → World → Prop} : ∀ (l : List Oper) (k : Nat) (listed : Array Bool) (a : Act) (w : World), (∀ j, l[j]? = ops[k + j]?) →
  Region.seqB .any ops l.length k listed = true → wpListIn (FX rd) 0 P ops Q' l a w → wpAnyIn (FX rd) 0 P .any ops Q' l.length listed a w
 | [], _, _, _, _, _, hB, h => ⟨by simpa [Region.seqB] using hB, h⟩
 | o :: l, k, listed, a, w, hl, hB, h => by
  have h0 : ops[k]? = some o := by simpa using (hl 0).symm
  simp only [List.length_cons, Region.seqB, Bool.and_eq_true, decide_eq_true_eq] at hB
  refine ⟨fun h1 => (by rw [hB.1] at h1; cases h1), fun i hi => ?_⟩
  rw [hB.1] at hi
  have hik : i = k := by simpa using hi
  subst hik
  have hw : wpOpIn (FX rd) 0 P ops Q' i (wpListIn (FX rd) 0 P ops Q' l) a w := by unfold wpOpIn; simp only [h0]; exact h
  exact wpOpIn_mono (fun a' w' h' => wpAnyIn_seq l (i + 1) _ a' w' (fun j => by have := hl (j + 1); simpa [Nat.add_assoc, Nat.add_comm 1 j] using this) hB.2 h') hw
theorem CW.headI {id : Nat} {l : List Oper} (k : Nat) (hm : P.follows .mixedOrders = true) (hB : Region.lexTailB .any l.toArray k = true)
  (h : ∀ w', Ext w w' → HL P l.toArray w' n (fun f => WI P l.toArray n Φ (l.drop k) f w') (l.take k) fr) (hd : noDefer l = true := by rfl) : CW P (.region id l.toArray true) n Φ fr w := fun a ha => by
 have h := h w.drew Chg.drew a ha
 simp only [Region.lexTailB, Bool.and_eq_true, decide_eq_true_eq] at hB
 obtain ⟨⟨⟨⟨hsel, hn⟩, hs⟩, hc⟩, hlex⟩ := hB
 have hn' : k < l.length := by simpa using hn
 have htl : (l.take k).length = k := by simp; omega
 have hdl : (l.drop k).length = l.toArray.size - k := by simp
 have inv0 : HeadInv .any l.toArray k (Array.replicate l.toArray.size false) :=
  ⟨by simp, fun j oj _ hl => (by rw [getD_replicate_false] at hl; cases hl), fun t _ ht => getD_in (by simpa using ht) (getD_replicate_false _ _)⟩
 have H := wpAnyL_lex (md := .any) (g := l.toArray.size - k) hsel hs hc hn (l.take k) 0 _ a (fun j hj => by
  have hj' : j < k := by rw [htl] at hj; exact hj
  simp [hj']) (by simpa using htl) inv0 (by rw [htl]; exact hlex) h
 refine wpIn_region_any hm ?_
 have := wpAnyIn_head (rd := n.2.2) (Q' := lift n Φ) hd (g := l.toArray.size - k) (fun listed a' hL => by
  obtain ⟨f, hf, hW⟩ := hL.2
  have := wpAnyIn_seq (rd := n.2.2) (Q' := lift n Φ) (l.drop k) k listed a' w.drew (fun j => by simp [List.getElem?_drop]) (by rw [hdl]; exact hL.1) (hW a' hf)
  rwa [hdl] at this) _ _ _ H
 rw [htl, show k + (l.toArray.size - k) = l.toArray.size by omega] at this
 exact this
theorem CW.head {id : Nat} {l : List Oper} (k : Nat) (hm : P.follows .mixedOrders = true) (hB : Region.lexTailB .any l.toArray k = true)
  (h : ∀ w', Ext w w' → HL P l.toArray w' n (fun f => WL P l.toArray n Φ (l.drop k) f w') (l.take k) fr) (hR : Tame n l Φ := by first | exact .inl rfl | exact .inr ⟨rfl, fun _ _ h => h⟩) : CW P (.region id l.toArray true) n Φ fr w := fun a ha => by
 have h := h w.drew Chg.drew a ha
 simp only [Region.lexTailB, Bool.and_eq_true, decide_eq_true_eq] at hB
 obtain ⟨⟨⟨⟨hsel, hn⟩, hs⟩, hc⟩, hlex⟩ := hB
 have hn' : k < l.length := by simpa using hn
 have htl : (l.take k).length = k := by simp; omega
 have hdl : (l.drop k).length = l.toArray.size - k := by simp
 have inv0 : HeadInv .any l.toArray k (Array.replicate l.toArray.size false) :=
  ⟨by simp, fun j oj _ hl => (by rw [getD_replicate_false] at hl; cases hl), fun t _ ht => getD_in (by simpa using ht) (getD_replicate_false _ _)⟩
 have H := wpAnyL_lex (md := .any) (g := l.toArray.size - k) hsel hs hc hn (l.take k) 0 _ a (fun j hj => by
  have hj' : j < k := by rw [htl] at hj; exact hj
  simp [hj']) (by simpa using htl) inv0 (by rw [htl]; exact hlex) h
 refine region_any hR hm ?_
 have := wpAny_of_head (Q' := lift n Φ) (g := l.toArray.size - k) (fun listed a' hL => by
  obtain ⟨f, hf, hW⟩ := hL.2
  have := wpAny_of_seq (md := .any) (Q' := lift n Φ) (l.drop k) k listed a' w.drew (fun j => by simp [List.getElem?_drop]) (by rw [hdl]; exact hL.1) (hW a' hf)
  rwa [hdl] at this) _ _ _ H
 rw [htl, show k + (l.toArray.size - k) = l.toArray.size by omega] at this
 exact this
end
def liftN (m : Nat) (rd : Option Nat) (Φ : Exit → List Deferred → Fr → World → Prop) : Exit → Act → World → Prop := fun e a w => ∃ ds fr, Rep (m, ds, rd) a fr ∧ Φ e ds fr w
def CN (P : Program) (c : Code) (m : Nat) (rd : Option Nat) (ds : List Deferred) (Φ : Exit → List Deferred → Fr → World → Prop) (fr : Fr) (w : World) : Prop := ∀ a, Rep (m, ds, rd) a fr → c.wpIn (FX rd) 0 P (liftN m rd Φ) a w
@[reducible] def thenN (K : List Deferred → Fr → World → Prop) (Φ : Exit → List Deferred → Fr → World → Prop) : Exit → List Deferred → Fr → World → Prop
 | .normal, ds, f, w => K ds f w
 | e, ds, f, w => Φ e ds f w
@[reducible] def blockN (id : Nat) (Φ : Exit → List Deferred → Fr → World → Prop) : Exit → List Deferred → Fr → World → Prop
 | .exit id', ds, f, w => if id' = id then Φ .normal ds f w else Φ (.exit id') ds f w
 | e, ds, f, w => Φ e ds f w
section
variable {P : Program} {m : Nat} {rd : Option Nat} {ds : List Deferred} {Φ : Exit → List Deferred → Fr → World → Prop} {fr : Fr} {w : World}
theorem CN.of_CW {c : Code} (h : CW P c (m, ds, rd) (fun e f w => Φ e ds f w) fr w) : CN P c m rd ds Φ fr w := fun a ha => wpIn_mono (h a ha) fun _ _ _ ⟨f, hf, hp⟩ => ⟨ds, f, hf, hp⟩
theorem CN.weaken {c : Code} {g : Fr} (hl : Fr.le g fr) (h : CN P c m rd ds Φ g w) : CN P c m rd ds Φ fr w := fun a ha => h a (ha.weaken hl)
theorem CN.seq {x y : Code} (h : ∀ K : List Deferred → Fr → World → Prop, (∀ ds f w, CN P y m rd ds Φ f w → K ds f w) → CN P x m rd ds (thenN K Φ) fr w) : CN P (.seq x y) m rd ds Φ fr w := by
 intro a ha
 refine wpIn_seq (wpIn_mono (h (fun ds f w => CN P y m rd ds Φ f w) (fun _ _ _ h => h) a ha) ?_)
 rintro e a' w' ⟨ds', f, hf, hp⟩
 cases e <;> first | exact hp a' hf | exact ⟨ds', f, hf, hp⟩
theorem CN.skip (h : Φ .normal ds fr w) : CN P .skip m rd ds Φ fr w := fun _ ha => wpIn_skip ⟨ds, fr, ha, h⟩
theorem CN.ret (h : Φ .ret ds fr w) : CN P .ret m rd ds Φ fr w := fun _ ha => wpIn_ret ⟨ds, fr, ha, h⟩
theorem CN.exit {id : Nat} (h : Φ (.exit id) ds fr w) : CN P (.exit id) m rd ds Φ fr w := fun _ ha => wpIn_exit ⟨ds, fr, ha, h⟩
theorem CN.cond {c : Operand} {x y : Code} {t : Bool} (hc : ev fr c = some (.bool t)) (ht : t = true → CN P x m rd ds Φ fr w) (hf : t = false → CN P y m rd ds Φ fr w) :
  CN P (.cond c x y) m rd ds Φ fr w := fun a ha => wpIn_cond_split (ha.ev hc) (fun h => ht h a ha) (fun h => hf h a ha)
theorem CN.condD {c : Operand} {x y : Code} {p : Prop} {inst : Decidable p} (hc : ev fr c = some (.bool (@decide p inst))) (ht : p → CN P x m rd ds Φ fr w) (hf : ¬ p → CN P y m rd ds Φ fr w) :
  CN P (.cond c x y) m rd ds Φ fr w := CN.cond hc (fun h => ht (@of_decide_eq_true p inst h)) (fun h => hf (@of_decide_eq_false p inst h))
theorem CN.condND {c : Operand} {x y : Code} {p : Prop} {inst : Decidable p} (hc : ev fr c = some (.bool (!@decide p inst))) (ht : ¬ p → CN P x m rd ds Φ fr w) (hf : p → CN P y m rd ds Φ fr w) :
  CN P (.cond c x y) m rd ds Φ fr w := CN.cond hc (fun h => ht (@of_decide_eq_false p inst (by simpa using h))) (fun h => hf (@of_decide_eq_true p inst (by simpa using h)))
theorem CN.condN {c : Operand} {x y : Code} {b : Bool} (hc : ev fr c = some (.bool (!b))) (ht : b = false → CN P x m rd ds Φ fr w) (hf : b = true → CN P y m rd ds Φ fr w) :
  CN P (.cond c x y) m rd ds Φ fr w := CN.cond hc (fun h => ht (by simpa using h)) (fun h => hf (by simpa using h))
theorem CN.block {id : Nat} {c : Code} (h : CN P c m rd ds (blockN id Φ) fr w) : CN P (.block id c) m rd ds Φ fr w := by
 intro a ha
 refine wpIn_block (wpIn_mono (h a ha) ?_)
 rintro e a' w' ⟨ds', f, hf, hp⟩
 cases e with
 | exit id' =>
  simp only [blockN] at hp
  simp only [Exit.inBlock]
  split at hp <;> rename_i hid
  ·
   rw [if_pos hid]; exact ⟨ds', f, hf, hp⟩
  ·
   rw [if_neg hid]; exact ⟨ds', f, hf, hp⟩
 | normal => exact ⟨ds', f, hf, hp⟩
 | goto l => exact ⟨ds', f, hf, hp⟩
 | ret => exact ⟨ds', f, hf, hp⟩
 | panic c => exact ⟨ds', f, hf, hp⟩
 | outgrown => exact ⟨ds', f, hf, hp⟩
theorem CN.seq_to {x y : Code} {X : Type} (g : X → Fr) (W : X → World → Prop)
  (h1 : CW P x (m, ds, rd) (thenF (fun f w' => ∃ u, Fr.le (g u) f ∧ W u w') (fun e f w => Φ e ds f w)) fr w) (h2 : ∀ u w', W u w' → CN P y m rd ds Φ (g u) w') : CN P (.seq x y) m rd ds Φ fr w :=
 CN.seq fun K hK => CN.of_CW (CW.mono h1 fun e f w' hp => by
  cases e with
  | normal => obtain ⟨u, hl, hw⟩ := hp; exact hK _ _ _ (CN.weaken hl (h2 u w' hw))
  | _ => exact hp)
end
theorem CN.seq_testW {P : Program} {m : Nat} {rd : Option Nat} {ds : List Deferred} {Φ : Exit → List Deferred → Fr → World → Prop} {fr : Fr} {w : World} {x y : Code} (W : World → World → Prop) (T : Nat) (Q : Prop)
  (h1 : CW P x (m, ds, rd) (thenF (fun f w' => (∃ b, f.get T = some (.bool b) ∧ (b = true ↔ Q)) ∧ W w w' ∧ Fr.le fr f) (fun e f w => Φ e ds f w)) fr w)
  (h2 : ∀ w', W w w' → CN P y m rd ds Φ ((T, .bool (@decide Q (Classical.propDecidable Q))) :: fr) w') : CN P (.seq x y) m rd ds Φ fr w :=
 CN.seq_to (X := Unit) (fun _ => (T, .bool (@decide Q (Classical.propDecidable Q))) :: fr) (fun _ w' => W w w')
  (CW.mono h1 fun e f w' hp => by
   cases e with
   | normal =>
    obtain ⟨⟨b, hb, hq⟩, hw, hl⟩ := hp
    have hbq : b = @decide Q (Classical.propDecidable Q) := by
     by_cases h : Q
     ·
      rw [hq.2 h, @decide_eq_true Q (Classical.propDecidable Q) h]
     ·
      rw [@decide_eq_false Q (Classical.propDecidable Q) h]
      cases b with
      | true => exact absurd (hq.1 rfl) h
      | false => rfl
    exact ⟨(), Fr.le.cons (by rw [hb, hbq]) hl, hw⟩
   | _ => exact hp)
  (fun u w' hw => h2 w' hw)
theorem CN.seq_testE {P : Program} {m : Nat} {rd : Option Nat} {ds : List Deferred} {Φ : Exit → List Deferred → Fr → World → Prop} {fr : Fr} {w : World} {x y : Code} (T : Nat) (Q : Prop)
  (h1 : CW P x (m, ds, rd) (thenF (fun f w' => (∃ b, f.get T = some (.bool b) ∧ (b = true ↔ Q)) ∧ Ext w w' ∧ Fr.le fr f) (fun e f w => Φ e ds f w)) fr w)
  (h2 : ∀ w', Ext w w' → CN P y m rd ds Φ ((T, .bool (@decide Q (Classical.propDecidable Q))) :: fr) w') : CN P (.seq x y) m rd ds Φ fr w := CN.seq_testW Ext T Q h1 h2
theorem CN.seq_test {P : Program} {m : Nat} {rd : Option Nat} {ds : List Deferred} {Φ : Exit → List Deferred → Fr → World → Prop} {fr : Fr} {w : World} {x y : Code} (T : Nat) (Q : Prop)
  (h1 : CW P x (m, ds, rd) (thenF (fun f w' => (∃ b, f.get T = some (.bool b) ∧ (b = true ↔ Q)) ∧ w' = w ∧ Fr.le fr f) (fun e f w => Φ e ds f w)) fr w)
  (h2 : CN P y m rd ds Φ ((T, .bool (@decide Q (Classical.propDecidable Q))) :: fr) w) : CN P (.seq x y) m rd ds Φ fr w :=
 CN.seq_testW (fun w w' => w' = w) T Q h1 (fun w' hw => by subst hw; exact h2)
theorem Chg.putObj {S : Nat → Prop} {w : World} {r : Nat} (o : Obj) (h : S r) : Chg S w (w.putObj r o) :=
 ⟨rfl, rfl, rfl, by simp, fun k _ hn => World.putObj_heap_other (fun e => hn (e ▸ h)), Nat.le_refl _⟩
abbrev mark (D : Nat) : Deferred := { target := .collected D, args := #[] }
def IterC {σ α : Type} (P : Program) (gf : Nat) (lb : List Value) (w : World) (Setup : World → σ → World → Prop) (xs : σ → List α) (encs : α → List Value) (T0 : Nat → Prop) (Keep : σ → Nat → Nat → Prop) (At : σ → Nat → World → Prop) (Fin : World → Prop) : Prop :=
 ∀ (l : Nat) (w1 : World) (J : σ → Nat → World → Prop) (Jx : World → Prop), Ext w w1 →
  (∀ s V, Chg T0 w1 V → Setup w1 s V → J s 0 V) →
  (∀ s i V V', J s i V → Chg T0 V V' → J s i V') →
  (∀ V V', Jx V → Chg T0 V V' → Jx V') →
  (∀ s i x V, J s i V → (xs s)[i]? = some x → At s i V →
   YieldAt (FX none) 0 P l (encs x).toArray V (fun e V' => ∃ b, e = .returned (.bool b) ∧ ((b = true ∧ J s (i + 1) V' ∧ Chg (fun k => ¬ Keep s i k) V V') ∨ (b = false ∧ Jx V' ∧ Chg (fun k => ¬ Keep s i k) V V')))) →
  Calls P gf (.func (.yield l) #[] #[] :: lb).toArray w1 (Ret fun _ V => ((∃ s, J s (xs s).length V) ∨ Jx V) ∧ Fin V)
def zipF : List Nat → List Value → Fr → Fr
 | p :: ps, v :: vs, f => zipF ps vs ((p, v) :: f)
 | _, _, f => f
theorem Rep.zip {m : Nat} {ds : List Deferred} {rd : Option Nat} : ∀ {ps : List Nat} {vs : List Value} {t : Array Value} {fr : Fr}, (∀ p ∈ ps, p < m) → Rep (m, ds, rd) { tmps := t, defers := ds } fr →
  Rep (m, ds, rd) { tmps := (ps.zip vs).foldl (fun t (p, v) => t.setIfInBounds p v) t, defers := ds } (zipF ps vs fr)
 | [], _, _, _, _, h => by simpa [zipF] using h
 | _ :: _, [], _, _, _, h => by simpa [zipF] using h
 | p :: ps, v :: vs, t, fr, hp, h => by
  have h1 := h.put (hp p (by simp)) v
  have := Rep.zip (ps := ps) (vs := vs) (t := t.setIfInBounds p v) (fr := (p, v) :: fr) (fun q hq => hp q (by simp [hq])) h1
  simpa [zipF] using this
@[reducible] def RoundF (l D : Nat) (Kp : Nat → Prop) (I' : World → Prop) (Ix : Exit → World → Prop) (V2 : World) : Exit → Fr → World → Prop
 | .normal, _, V3 => I' V3 ∧ Chg (fun k => ¬ Kp k ∧ k ≠ l ∧ k ≠ D) V2 V3
 | .ret, _, V3 => Ix .ret V3 ∧ Chg (fun k => ¬ Kp k ∧ k ≠ l ∧ k ≠ D) V2 V3
 | .exit id, _, V3 => Ix (.exit id) V3 ∧ Chg (fun k => ¬ Kp k ∧ k ≠ l ∧ k ≠ D) V2 V3
 | .goto t, _, V3 => Ix (.goto t) V3 ∧ Chg (fun k => ¬ Kp k ∧ k ≠ l ∧ k ≠ D) V2 V3
 | _, _, _ => False
theorem CN.range {P : Program} {m : Nat} {ds : List Deferred} {Φ : Exit → List Deferred → Fr → World → Prop} {fr : Fr} {w : World} {σ α : Type} {g : Operand} {ps : List Nat} {assign body : Code} {gf : Nat} {lb : List Value} {fn : Func}
  {Setup : World → σ → World → Prop} {xs : σ → List α} {encs : α → List Value} {T0 : Nat → Prop} {Keep : σ → Nat → Nat → Prop} {At : σ → Nat → World → Prop} {Fin : World → Prop}
  (hg : ev fr g = some (.func (.func gf) #[] lb.toArray)) (hf : P.funcs[gf]? = some fn) (hb : fn.body.isNone = false) (hn : (fn.name == "runtime.NumGoroutine") = false)
  (hit : IterC P gf lb w Setup xs encs T0 Keep At Fin) (hps : ∀ x, (encs x).length = ps.length) (hpm : ∀ p ∈ ps, p < m)
  (hT0 : ∀ k, T0 k → k < w.heap.size) (hK : ∀ w1 s V, w.heap.size + 2 ≤ w1.heap.size → Setup w1 s V → ∀ i, ¬ Keep s i (w.heap.size + 1))
  (I : σ → Nat → World → Prop) (Ix : σ → Exit → World → Prop)
  (h0 : ∀ w1 s V, Ext w w1 → w.heap.size + 2 ≤ w1.heap.size → Chg T0 w1 V → Setup w1 s V → I s 0 V)
  (hI : ∀ s i V V', I s i V → Chg (fun k => T0 k ∨ k = w.heap.size + 1) V V' → I s i V')
  (hIx : ∀ s e V V', Ix s e V → Chg (fun k => T0 k ∨ k = w.heap.size + 1) V V' → Ix s e V')
  (hround : ∀ s i x V, I s i V → (xs s)[i]? = some x → At s i V → w.heap.size + 2 ≤ V.heap.size →
   CW P assign (m, [], some (w.heap.size + 1)) (thenF (fun f V1 => Ext V V1 ∧ ∀ V2, Chg (fun k => k = w.heap.size + 1) V1 V2 →
    CW P body (m, [], some (w.heap.size + 1)) (RoundF (w.heap.size + 1) w.heap.size (Keep s i) (I s (i + 1)) (Ix s) V2) f V2) (fun _ _ _ => False)) (zipF ps (encs x) fr) V)
  (hdone : ∀ s V, I s (xs s).length V → V.heap[w.heap.size]? = some (.deferred (some [])) → (∃ V0, Fin V0 ∧ Chg (fun k => k = w.heap.size + 1) V0 V) → Φ .normal (mark w.heap.size :: ds) fr V)
  (hleave : ∀ s e V, Ix s e V → V.heap[w.heap.size]? = some (.deferred (some [])) → (∃ V0, Fin V0 ∧ Chg (fun k => k = w.heap.size + 1) V0 V) → e = .ret ∨ (∃ id, e = .exit id) ∨ (∃ t, e = .goto t) → Φ e (mark w.heap.size :: ds) fr V) :
  CN P (.rangeFunc g ps.toArray assign body) m none ds Φ fr w := by
 intro a ha
 refine wpIn_rangeFunc fun fn0 _ => ?_
 obtain ⟨rec, hrec⟩ : ∃ rec : LoopState → Option Code → Loop, rec = fun st pe => { state := st, pending := pe, fn := fn0, tmps := a.tmps, params := ps.toArray, assign, body, defers := w.heap.size } := ⟨_, rfl⟩
 obtain ⟨W1, hW1⟩ : ∃ W1, (w.alloc (.deferred (some []))).alloc (.loop (rec .ready none)) = W1 := ⟨_, rfl⟩
 have hx1 : Ext w W1 := by rw [← hW1]; exact (Chg.alloc _).trans (Chg.alloc (S := fun _ => False) _) (fun _ _ f => f)
 have hz1 : W1.heap.size = w.heap.size + 2 := by rw [← hW1]; simp
 have hL1 : W1.heap[w.heap.size + 1]? = some (.loop (rec .ready none)) := by
  rw [← hW1]; have := World.alloc_heap_new (w.alloc (.deferred (some []))) (.loop (rec .ready none)); rwa [World.size_alloc] at this
 have hD1 : W1.heap[w.heap.size]? = some (.deferred (some [])) := by
  rw [← hW1]; exact (Below.heap_alloc _ _ _ (by simp)).trans (World.alloc_heap_new w _)
 refine ⟨w.heap.size + 1, [mark w.heap.size], W1, { target := .fn (.func gf) lb.toArray, args := #[.func (.yield (w.heap.size + 1)) #[] #[]] }, W1, gf,
  #[.func (.yield (w.heap.size + 1)) #[] #[]] ++ lb.toArray, W1, ?_, ?_, fun _ _ => trivial, ?_, fun hx => (by simp [FX] at hx), ?_⟩
 ·
  rw [← hW1, hrec]; exact run_enterLoop_outer _ _ _ _ _
 ·
  have e := ha.ev hg
  simp only [resolve, e]
  simp [Deferred.ofValue, Act.eval]
 ·
  simp [invoke, run_callFunc hf hb hn]
 ·
  refine callsIn_FX.2 ?_
  have hdef : ∀ V : World, (a.defers = ds) → Rep (m, mark w.heap.size :: ds, none) { a with defers := mark w.heap.size :: a.defers } fr := fun V hd => ⟨ha.size, by rw [hd], ha.get⟩
  have hend : ∀ (st : LoopState) (pe : Option Code) (V : World), st ≠ .busy → V.heap[w.heap.size + 1]? = some (.loop (rec st pe)) →
    (Instr.endLoop (w.heap.size + 1)).run P V = .ok pe (V.putObj (w.heap.size + 1) (.loop (rec .exhausted pe))) := fun st pe V hs hv => by
   have := run_endLoop (P := P) hv (by rw [hrec]; exact hs)
   rw [hrec] at this ⊢
   exact this
  have key := hit (w.heap.size + 1) W1
   (fun s i V => I s i V ∧ V.heap[w.heap.size + 1]? = some (.loop (rec .ready none)) ∧ V.heap[w.heap.size]? = some (.deferred (some [])) ∧ w.heap.size + 2 ≤ V.heap.size ∧ ∀ i, ¬ Keep s i (w.heap.size + 1))
   (fun V => ∃ s e c, Ix s e V ∧ V.heap[w.heap.size + 1]? = some (.loop (rec .done (some c))) ∧ V.heap[w.heap.size]? = some (.deferred (some [])) ∧ w.heap.size + 2 ≤ V.heap.size ∧
    ((e = .ret ∧ c = .ret) ∨ (∃ id, e = .exit id ∧ c = .exit id) ∨ (∃ t, e = .goto t ∧ c = .goto t))) hx1
   (fun s V hc hs => ⟨h0 W1 s V hx1 om_ hc hs, (hc.block _ om_ (fun h => by have := hT0 _ h; omega)).trans hL1, (hc.block _ om_ (fun h => by have := hT0 _ h; omega)).trans hD1, by have := hc.size; omega, hK W1 s V om_ hs⟩)
   (fun s i V V' hJ hc => ⟨hI s i V V' hJ.1 (hc.mono fun _ _ h => .inl h), (hc.block _ om_ (fun h => by have := hT0 _ h; omega)).trans hJ.2.1, (hc.block _ om_ (fun h => by have := hT0 _ h; omega)).trans hJ.2.2.1, by have := hc.size; omega, hJ.2.2.2.2⟩)
   (fun V V' hJ hc => by
    obtain ⟨s, e, c, h1, h2, h3, h4, h5⟩ := hJ
    exact ⟨s, e, c, hIx s e V V' h1 (hc.mono fun _ _ h => .inl h), (hc.block _ om_ (fun h => by have := hT0 _ h; omega)).trans h2, (hc.block _ om_ (fun h => by have := hT0 _ h; omega)).trans h3, by have := hc.size; omega, h5⟩)
   (fun s i x V hJ hx hAt => by
    obtain ⟨hi, hl, hD, hz, hk⟩ := hJ
    have hy := run_yield (P := P) (args := (encs x).toArray) hl (by rw [hrec]; simp [hps x])
    rw [hrec] at hy
    refine ⟨fn0, _, assign, body, hy, roundIn_of_wpIn trivial ?_⟩
    have hrep : Rep (m, [], some (w.heap.size + 1)) { tmps := (ps.toArray.zip (encs x).toArray).foldl (fun t (p, v) => t.setIfInBounds p v) a.tmps, defers := [] } (zipF ps (encs x) fr) := by
     have h1 : Rep (m, [], some (w.heap.size + 1)) { tmps := a.tmps, defers := [] } fr := ⟨ha.size, rfl, ha.get⟩
     have := Rep.zip (vs := encs x) hpm h1
     simpa using this
    refine wpIn_mono (hround s i x V hi hx hAt hz _ hrep) ?_
    rintro e a1 V1 ⟨f, hf1, hp⟩
    cases e with
    | normal =>
     obtain ⟨hx2, hbody⟩ := hp
     have hl1 := (hx2.block _ om_ (fun h => h)).trans hl
     have hD1 := (hx2.block _ om_ (fun h => h)).trans hD
     refine ⟨_, run_beginRound hl1 (by rw [hrec]), ?_⟩
     have hlt : w.heap.size + 1 < V1.heap.size := by have := hx2.size; omega
     have hl2 : (V1.putObj (w.heap.size + 1) (.loop { rec .ready none with state := .busy })).heap[w.heap.size + 1]? = some (.loop { rec .ready none with state := .busy }) := World.putObj_heap_same hlt
     have hD2 : (V1.putObj (w.heap.size + 1) (.loop { rec .ready none with state := .busy })).heap[w.heap.size]? = some (.deferred (some [])) := (World.putObj_heap_other om_).trans hD1
     have hc2 : Chg (fun k => k = w.heap.size + 1) V1 (V1.putObj (w.heap.size + 1) (.loop { rec .ready none with state := .busy })) := Chg.putObj _ rfl
     have fin : ∀ (jump : Option Code) (V3 : World), Chg (fun k => k ≠ w.heap.size + 1 ∧ k ≠ w.heap.size) (V1.putObj (w.heap.size + 1) (.loop { rec .ready none with state := .busy })) V3 →
       (Instr.endRound (w.heap.size + 1) jump).run P V3 = .ok (.bool jump.isNone) (V3.putObj (w.heap.size + 1) (.loop (rec (if jump.isNone then .ready else .done) jump))) ∧
       (V3.putObj (w.heap.size + 1) (.loop (rec (if jump.isNone then .ready else .done) jump))).heap[w.heap.size + 1]? = some (.loop (rec (if jump.isNone then .ready else .done) jump)) ∧
       (V3.putObj (w.heap.size + 1) (.loop (rec (if jump.isNone then .ready else .done) jump))).heap[w.heap.size]? = some (.deferred (some [])) ∧ w.heap.size + 2 ≤ (V3.putObj (w.heap.size + 1) (.loop (rec (if jump.isNone then .ready else .done) jump))).heap.size := fun jump V3 hk3 => by
      have hl3 := (hk3.block _ (Array.getElem?_eq_some_iff.1 hl2).1 (fun h => h.1 rfl)).trans hl2
      have hD3 := (hk3.block _ (Array.getElem?_eq_some_iff.1 hD2).1 (fun h => h.2 rfl)).trans hD2
      have hz3 := hk3.size
      have := run_endRound (P := P) jump hl3
      rw [hrec] at this ⊢
      refine ⟨this, World.putObj_heap_same (Array.getElem?_eq_some_iff.1 hl3).1, (World.putObj_heap_other om_).trans hD3, ?_⟩
      simp only [World.putObj_size] at hz3 ⊢
      have := hx2.size
      omega
     have chg : ∀ (V3 : World) (o : Obj), Chg (fun k => ¬ Keep s i k ∧ k ≠ w.heap.size + 1 ∧ k ≠ w.heap.size) (V1.putObj (w.heap.size + 1) (.loop { rec .ready none with state := .busy })) V3 → Chg (fun k => ¬ Keep s i k) V (V3.putObj (w.heap.size + 1) o) := fun V3 o hk3 =>
      ((hx2.chg.trans (hc2.mono (T := fun k => ¬ Keep s i k) fun k _ h => by rw [h]; exact hk i) (fun _ _ h => h)).trans (hk3.mono (T := fun k => ¬ Keep s i k) fun _ _ h => h.1) (fun _ _ h => h)).trans (Chg.putObj (S := fun k => ¬ Keep s i k) _ (hk i)) (fun _ _ h => h)
     refine wpIn_mono (hbody _ hc2 a1 hf1) ?_
     rintro e3 a3 V3 ⟨f3, hf3, hp3⟩
     cases e3 with
     | normal =>
      obtain ⟨hi3, hk3⟩ := hp3
      obtain ⟨hr, hl4, hD4, hz4⟩ := fin none V3 (hk3.mono fun _ _ h => ⟨h.2.1, h.2.2⟩)
      refine ⟨_, _, hr, true, rfl, .inl ⟨rfl, ⟨hI _ _ _ _ hi3 (Chg.putObj _ (.inr rfl)), hl4, hD4, hz4, hk⟩, ?_⟩⟩
      exact chg V3 _ hk3
     | ret =>
      obtain ⟨hi3, hk3⟩ := hp3
      obtain ⟨hr, hl4, hD4, hz4⟩ := fin (some .ret) V3 (hk3.mono fun _ _ h => ⟨h.2.1, h.2.2⟩)
      exact ⟨_, _, hr, false, rfl, .inr ⟨rfl, ⟨s, .ret, .ret, hIx _ _ _ _ hi3 (Chg.putObj _ (.inr rfl)), hl4, hD4, hz4, .inl ⟨rfl, rfl⟩⟩, chg V3 _ hk3⟩⟩
     | exit id =>
      obtain ⟨hi3, hk3⟩ := hp3
      obtain ⟨hr, hl4, hD4, hz4⟩ := fin (some (.exit id)) V3 (hk3.mono fun _ _ h => ⟨h.2.1, h.2.2⟩)
      exact ⟨_, _, hr, false, rfl, .inr ⟨rfl, ⟨s, .exit id, .exit id, hIx _ _ _ _ hi3 (Chg.putObj _ (.inr rfl)), hl4, hD4, hz4, .inr (.inl ⟨id, rfl, rfl⟩)⟩, chg V3 _ hk3⟩⟩
     | goto t =>
      obtain ⟨hi3, hk3⟩ := hp3
      obtain ⟨hr, hl4, hD4, hz4⟩ := fin (some (.goto t)) V3 (hk3.mono fun _ _ h => ⟨h.2.1, h.2.2⟩)
      exact ⟨_, _, hr, false, rfl, .inr ⟨rfl, ⟨s, .goto t, .goto t, hIx _ _ _ _ hi3 (Chg.putObj _ (.inr rfl)), hl4, hD4, hz4, .inr (.inr ⟨t, rfl, rfl⟩)⟩, chg V3 _ hk3⟩⟩
     | panic c => exact hp3.elim
     | outgrown => exact hp3.elim
    | exit id => exact hp.elim
    | goto t => exact hp.elim
    | ret => exact hp.elim
    | panic c => exact hp.elim
    | outgrown => exact hp.elim)
  have hlist : (Value.func (.yield (w.heap.size + 1)) #[] #[] :: lb).toArray = #[Value.func (.yield (w.heap.size + 1)) #[] #[]] ++ lb.toArray := by simp
  rw [hlist] at key
  refine key.mono ?_
  rintro e V hR
  cases e with
  | returned v =>
   obtain ⟨hR, hfin⟩ := hR
   rcases hR with ⟨s, hi, hl, hD, hz, _⟩ | ⟨s, e, c, hi, hl, hD, hz, hec⟩
   ·
    refine ⟨none, _, hend .ready none V (by simp) hl, _, fr, hdef V ha.defers, ?_⟩
    exact hdone s _ (hI _ _ _ _ hi (Chg.putObj _ (.inr rfl))) ((World.putObj_heap_other om_).trans hD) ⟨V, hfin, Chg.putObj _ rfl⟩
   ·
    refine ⟨some c, _, hend .done (some c) V (by simp) hl, ?_⟩
    have hi' := hIx _ _ _ _ hi (Chg.putObj (r := w.heap.size + 1) (.loop (rec .exhausted (some c))) (.inr rfl))
    have hD' : (V.putObj (w.heap.size + 1) (.loop (rec .exhausted (some c)))).heap[w.heap.size]? = some (.deferred (some [])) := (World.putObj_heap_other om_).trans hD
    have hw := hleave s e _ hi' hD' ⟨V, hfin, Chg.putObj _ rfl⟩ (by rcases hec with ⟨h, _⟩ | ⟨id, h, _⟩ | ⟨t, h, _⟩ <;> simp [h])
    rcases hec with ⟨rfl, rfl⟩ | ⟨id, rfl, rfl⟩ | ⟨t, rfl, rfl⟩
    ·
     exact wpIn_ret ⟨_, fr, hdef V ha.defers, hw⟩
    ·
     exact wpIn_exit ⟨_, fr, hdef V ha.defers, hw⟩
    ·
     exact wpIn_goto ⟨_, fr, hdef V ha.defers, hw⟩
  | panicked ch => exact hR.elim
  | outgrown => exact hR.elim
theorem def_chg {S : Nat → Prop} {w w' : World} {D : Nat} (h : w.heap[D]? = some (.deferred (some []))) (hc : Chg S w w') (hs : ¬ S D) : w'.heap[D]? = some (.deferred (some [])) := (hc.block D (Array.getElem?_eq_some_iff.1 h).1 hs).trans h
@[reducible] def EndN (ts : List Nat) (R : Value → World → Prop) (ds : List Deferred) (fr : Fr) (w : World) : Prop :=
 ∃ Ds : List Nat, ds = Ds.map mark ∧ Ds.Nodup ∧ (∀ D ∈ Ds, w.heap[D]? = some (.deferred (some []))) ∧ ∃ v, resV fr ts = some v ∧ ∀ w', Chg (fun k => k ∈ Ds) w w' → R v w'
@[reducible] def DoneN (ts : List Nat) (R : Value → World → Prop) : Exit → List Deferred → Fr → World → Prop
 | .normal, ds, fr, w => EndN ts R ds fr w
 | .ret, ds, fr, w => EndN ts R ds fr w
 | _, _, _, _ => False
theorem leaves_marks {P : Program} {fn : Func} {tmps : Array Value} {v : Value} (hv : ∀ w, (results fn tmps).run P w = .ok v w) {R : Value → World → Prop} : ∀ (Ds : List Nat) (w : World), Ds.Nodup → (∀ D ∈ Ds, w.heap[D]? = some (.deferred (some []))) →
  (∀ w', Chg (fun k => k ∈ Ds) w w' → R v w') → LeavesInM (FX none) 0 P fn tmps (Ret R) (Ds.map mark) .returning w
 | [], w, _, _, h => ⟨v, hv w, h w Chg.refl⟩
 | D :: Ds, w, hn, hD, h => by
  have hn' := List.nodup_cons.1 hn
  refine ⟨by simp, .inl ⟨D, w.putObj D (.deferred none), rfl, run_takeDeferred (hD D (by simp)), ?_⟩⟩
  refine leaves_marks hv Ds _ hn'.2 (fun E hE => (World.putObj_heap_other (fun e => hn'.1 (by rw [← e]; exact hE))).trans (hD E (List.mem_cons_of_mem _ hE))) fun w' hc => ?_
  exact h w' ((Chg.putObj (S := fun k => k ∈ D :: Ds) _ (by simp)).trans (hc.mono (T := fun k => k ∈ D :: Ds) fun k _ hk => List.mem_cons_of_mem _ hk) (fun _ _ h => h))
theorem calls_of_CN {P : Program} {w : World} {f : FuncId} {fn : Func} {c : Code} {args : List Value} {R : Value → World → Prop} (m : Nat) (ts : List Nat) (fr0 : Fr)
  (hf : P.funcs[f]? = some fn) (hb : fn.body = some c) (hm : fn.ntmps = m) (hr : fn.results = (ts.map ResultVar.tmp).toArray)
  (hsz : args.length ≤ m) (hargs : ∀ t v, fr0.get t = some v → args[t]? = some v)
  (h : CN P c m none [] (DoneN ts R) fr0 w) : Calls P f args.toArray w (Ret R) := by
 refine callsIn_FX.1 (callsIn_of_wp_marks (F := FX none) (n := 0) hf hb trivial ?_)
 have hrep : Rep (m, [], none) { tmps := args.toArray ++ Array.replicate (fn.ntmps - args.toArray.size) undef, defers := [] } fr0 := by
  refine ⟨by simp [hm]; omega, rfl, fun t v hv => ?_⟩
  have h1 := hargs t v hv
  have hlt : t < args.length := (List.getElem?_eq_some_iff.1 h1).1
  simpa [Array.getElem?_append, hlt] using (List.getElem?_eq_some_iff.1 h1).2
 refine wpIn_mono (h _ hrep) ?_
 rintro e a' w' ⟨ds', fr', hf', hp⟩
 have fin : EndN ts R ds' fr' w' → LeavesInM (FX none) 0 P fn a'.tmps (Ret R) a'.defers .returning w' := by
  rintro ⟨Ds, rfl, hnd, hD, v, hv, hR⟩
  have e : a'.defers = Ds.map mark := hf'.defers
  rw [e]
  exact leaves_marks (fun w => run_results hf' hr hv w) Ds w' hnd hD hR
 cases e with
 | normal => exact fin hp
 | ret => exact fin hp
 | exit id => exact hp
 | goto l => exact hp
 | panic ch => exact hp.elim
 | outgrown => exact hp.elim
end Go.Fw
/- Several texts as one: Gd, Ge, Gf, Gg, Gh. -/
/- Marks over a graph, as both sides make them; what a look at a graph is in memory. No condition. -/
namespace Go.Pl
open Go.Fw
def ixN (l : List Nd) (d : Dig) : Nat := (idsL l).idxOf d
def setAll (l : List Nd) (S : List Bool) (ds : List Dig) : List Bool := ds.foldl (fun S d => S.set (ixN l d) true) S
def mark0 (l : List Nd) (ids : List Dig) : List Bool := setAll l (List.replicate l.length false) ids
def upd (l : List Nd) (S : List Bool) (i : Nat) : List Bool := match l[i]? with
 | some n => if S[i]? = some true then setAll l S n.ps else S
 | none => S
def markD (l : List Nd) : Nat → List Bool → List Bool
 | 0, S => S
 | i + 1, S => markD l i (upd l S i)
def markF (l : List Nd) (ids : List Dig) : List Bool := markD l l.length (mark0 l ids)
theorem setAll_length {l : List Nd} : ∀ {ds : List Dig} {S : List Bool}, (setAll l S ds).length = S.length
 | [], _ => rfl
 | d :: ds, S => by
  have := setAll_length (l := l) (ds := ds) (S := S.set (ixN l d) true)
  rw [List.length_set] at this
  exact this
theorem setAll_app {l : List Nd} {S : List Bool} {ds : List Dig} {d : Dig} : setAll l S (ds ++ [d]) = (setAll l S ds).set (ixN l d) true := by simp [setAll, List.foldl_append]
theorem mark0_length {l : List Nd} {ids : List Dig} : (mark0 l ids).length = l.length := by rw [mark0, setAll_length, List.length_replicate]
theorem upd_length {l : List Nd} {S : List Bool} {i : Nat} : (upd l S i).length = S.length := by
 unfold upd
 split
 ·
  split
  ·
   exact setAll_length
  ·
   rfl
 ·
  rfl
theorem upd_no {l : List Nd} {S : List Bool} {i : Nat} (h : S[i]? ≠ some true) : upd l S i = S := by
 unfold upd
 split
 ·
  rw [if_neg h]
 ·
  rfl
theorem upd_yes {l : List Nd} {S : List Bool} {i : Nat} {n : Nd} (hn : l[i]? = some n) (h : S[i]? = some true) : upd l S i = setAll l S n.ps := by
 unfold upd
 rw [hn]
 simp only
 rw [if_pos h]
theorem fwrong_nil : ∀ {l : List Nd} {a : List Dig} {i : Nat}, (fwrong l a i).2 = 0 → ∀ (j : Nat) (n : Nd), l[j]? = some n → wrongE (a ++ idsL (l.take j)) n = 0
 | [], _, _, _, j, n, h => by simp at h
 | x :: r, a, i, h, j, n, hn => by
  rw [fwrong] at h
  split at h
  ·
   rename_i hx
   cases j with
   | zero => simp at hn; subst hn; simpa using hx
   | succ j =>
    have := fwrong_nil (l := r) h j n (by simpa using hn)
    simpa [idsL] using this
  ·
   rename_i hx; exact absurd h hx
theorem ok_len {l : List Nd} (h : (readE l).2 = 0) : l.length ≤ 200 := by
 unfold readE at h
 split at h
 ·
  simp at h
 ·
  omega
theorem ok_at {l : List Nd} (h : (readE l).2 = 0) {i : Nat} {n : Nd} (hi : l[i]? = some n) : wrongE (idsL (l.take i)) n = 0 := by
 have hl := ok_len h
 rw [readE, if_neg om_] at h
 simpa using fwrong_nil h i n hi
theorem ok_par {l : List Nd} (h : (readE l).2 = 0) {i : Nat} {n : Nd} (hi : l[i]? = some n) {p : Dig} (hp : p ∈ n.ps) : p ∈ idsL (l.take i) := (wrong_ok (ok_at h hi)).2.2.2 p hp
theorem mem_idsTake {l : List Nd} {i : Nat} {p : Dig} (h : p ∈ idsL (l.take i)) : p ∈ idsL l := by
 obtain ⟨n, hn, he⟩ := List.mem_map.1 h
 exact List.mem_map.2 ⟨n, List.mem_of_mem_take hn, he⟩
theorem ixN_lt {l : List Nd} {d : Dig} (h : d ∈ idsL l) : ixN l d < l.length := by
 have := List.idxOf_lt_length_iff.2 h
 simpa [ixN] using this
theorem placed_ix {l : List Nd} {d : Dig} (h : d ∈ idsL l) : ∃ j, mfind Prod.fst d (placed (idsL l)) 0 = some (j, (d, ixN l d)) := by
 cases hf : mfind Prod.fst d (placed (idsL l)) 0 with
 | none =>
  have := placed_isSome (d := d) (ids := idsL l) (k := 0) (i := 0)
  rw [show (idsL l).zipIdx 0 = placed (idsL l) from rfl, hf] at this
  simp [h] at this
 | some p =>
  obtain ⟨j, e⟩ := p
  obtain ⟨h1, h2, h3, h4⟩ := placed_some (k := 0) hf
  refine ⟨j, ?_⟩
  simp only [Nat.sub_zero] at h2 h4
  have h5 := findI_at (i := e.2) h2 h4
  rw [findI, if_pos h] at h5
  have h6 : ixN l d = e.2 := by unfold ixN; omega
  rw [← h1, h1, h6]
  have : e = (d, e.2) := by rw [← h1]
  rw [this]
end Go.Pl
namespace Go.Fw
section
variable {w : World} {a : Addr} {v0 v1 v2 : Value}
theorem Mem.graphlook0 (h : Mem w a [v0, v1, v2]) : w.cell? (a.add 0) = some v0 := h.cell 0 rfl
theorem Mem.graphlook1 (h : Mem w a [v0, v1, v2]) : w.cell? (a.add 1) = some v1 := h.cell 1 rfl
end
end Go.Fw
namespace Go.Proofs.YtmehkigmnpjcjaaDoor
open Go.RowKit Go.Fw Go.Pl
abbrev TLk : TypeId := 127
abbrev TBo : TypeId := 4
structure LookAt (w0 w : World) (gk r sb : Nat) (u : Value) (l : List NdV) (S : List Bool) : Prop where
 nds : Nds w0 u l
 old : Ext w0 w
 new : w0.heap.size ≤ gk ∧ w0.heap.size ≤ r ∧ w0.heap.size ≤ sb
 ne : gk ≠ r ∧ gk ≠ sb ∧ r ≠ sb
 blk : Blk w gk TLk [u, .map (some r), .slice (some ⟨sb, 0, none⟩) l.length l.length]
 map : MapAt w r pme (placed (idsL (ndsL l))) l.length
 seen : Blk w sb TBo (boolC S)
 len : S.length = l.length
 ok : (readE (ndsL l)).2 = 0
section
variable {w0 w w' : World} {gk r sb : Nat} {u : Value} {l : List NdV} {S S' : List Bool} {T : Nat → Prop}
theorem LookAt.lt (h : LookAt w0 w gk r sb u l S) : gk < w.heap.size ∧ r < w.heap.size ∧ sb < w.heap.size := ⟨h.blk.lt, h.map.lt, h.seen.lt⟩
theorem LookAt.chg (h : LookAt w0 w gk r sb u l S) (hc : Chg T w w') (h1 : ¬ T gk) (h2 : ¬ T r) (h3 : ¬ T sb) (h4 : ∀ k, T k → w0.heap.size ≤ k) : LookAt w0 w' gk r sb u l S :=
 ⟨h.nds, h.old.step hc h4, h.new, h.ne, h.blk.chg hc h1, h.map.chg hc h2, h.seen.chg hc h3, h.len, h.ok⟩
theorem LookAt.ext (h : LookAt w0 w gk r sb u l S) (hc : Ext w w') : LookAt w0 w' gk r sb u l S := h.chg hc (fun f => f) (fun f => f) (fun f => f) (fun _ f => f.elim)
end
end Go.Proofs.YtmehkigmnpjcjaaDoor
/- A look at a graph begun, gone over, marked: begin, reach and its closure, marks, walked. No condition. -/
namespace Go.Proofs.YtmehkigmnpjcjaaDoor
open Go.RowKit Go.Fw Go.Pl
theorem info_boolT : ∃ i : TypeInfo, Tryd.prog.info? TBo = some i ∧ i.zero = some (.bool false) ∧ i.size = 1 ∧ i.bytes = 1 := by
 have h : (Tryd.prog.info? TBo).map (fun i => (i.zero, i.size, i.bytes)) = some (some (.bool false), 1, 1) := by kernel_rfl
 cases hi : Tryd.prog.info? TBo with
 | none => simp [hi] at h
 | some i => simp [hi] at h; exact ⟨i, rfl, h.1, h.2.1, h.2.2⟩
abbrev sz0_bool := @sz_bool
theorem sz0_sDigest : (Tryd.prog.info? 25).map (·.size) = some 1 := by kernel_rfl
abbrev sz0_sapiDigest := @sz0_sDigest
theorem fo_graphlook0 : FieldOff Tryd.prog TLk 0 0 := ⟨_, _, 1, Tryd.underlying127, rfl, by kernel_rfl, by decide, rfl⟩
theorem fo_graphlook1 : FieldOff Tryd.prog TLk 1 1 := ⟨_, _, 1, Tryd.underlying127, rfl, by kernel_rfl, by decide, rfl⟩
theorem build_look (A : Option Addr) (n c r sb : Nat) (w : World) : (Instr.build TLk [(0, .slice A n c), (1, .map (some r)), (2, .slice (some ⟨sb, 0, none⟩) n n)].toArray).run Tryd.prog w = .ok (.agg #[.slice A n c, .map (some r), .slice (some ⟨sb, 0, none⟩) n n]) w := run_build w _ _ _ kr_
theorem gbegin_any (u v0 : Value) (l : List NdV) (ds : List (Value × List Dig)) (w : World) (hl : Nds w u l) (hd : Sl w (fun x : Value × List Dig => [x.1]) 1 v0 ds) (hdd : ∀ x ∈ ds, Sl w digC 32 x.1 x.2) : Calls Tryd.prog 49 #[u, v0] w (Ret fun v w' => ∃ p, v = .tuple #[.pointer p, .int .i64 (wrongQ (ndsL l) (ds.map Prod.snd).flatten)] ∧ Ext w w' ∧ (wrongQ (ndsL l) (ds.map Prod.snd).flatten = 0 → ∃ gk r sb, p = some ⟨gk, 0, none⟩ ∧ LookAt w w' gk r sb u l (List.replicate l.length false))) := by
 have hl0 := hl
 obtain ⟨A, c, rfl, hmc, hcm⟩ := hl.sl.lens
 obtain ⟨A1, m1, c1, rfl, hdm, hdc, hdx, hdg⟩ := hd
 unfold maxLen at hcm hdx
 obtain ⟨bi, hbi, hbz, hbs, hbb⟩ := info_boolT
 refine calls_of_CW 53 [4, 5] [(0, .slice A l.length c), (1, .slice A1 m1 c1)] Tryd.func49 rfl rfl rfl (by simp) args2 ?_
 have hE : Ext w w := Chg.refl
 refine CW.sr fun K1 hK1 => ?_
 refine WL.a rfl ?_
 refine WL.a rfl ?_
 refine WL.nil (hK1 _ _ ?_); try clear hK1
 refine CW.sr fun K2 hK2 => ?_
 refine WL.m rfl ?_
 refine WL.call Tryd.func69 rfl rfl rfl (gread_any _ l _ hl0) (by simp) ?_; rintro v17 w1 hR1
 obtain ⟨mv, rfl, hmv, hx1⟩ := hR1
 have hz1 := hx1.size
 have hE := hE.thenExt hx1
 refine WL.m rfl ?_
 refine WL.v (Y.extract rfl rfl) ?_
 refine WL.v (Y.extract rfl rfl) ?_
 refine WL.v (Y.extract rfl rfl) ?_
 refine WL.a rfl ?_
 refine WL.a rfl ?_
 refine WL.a rfl ?_
 refine WL.nil (hK2 _ _ ?_); try clear hK2
 refine CW.seq fun K3 hK3 => ?_
 refine CW.sr fun K4 hK4 => ?_
 refine WL.m rfl ?_
 refine WL.v (Y.neq rfl rfl) ?_
 refine WL.nil (hK4 _ _ ?_); try clear hK4
 (first | refine cd_ rfl ?_ ?_ | refine ce_ rfl ?_ ?_ | refine cn_ rfl ?_ ?_ | refine cb_ rfl ?_ ?_) <;> intro ht5
 ·
  -- then
  refine CW.sr fun K6 hK6 => ?_
  refine WL.m rfl ?_
  refine WL.a rfl ?_
  refine WL.a rfl ?_
  refine WL.nil (hK6 _ _ ?_); try clear hK6
  refine CW.ret ⟨_, rfl, ?_⟩
  have he : wrongQ (ndsL l) (ds.map Prod.snd).flatten = (readE (ndsL l)).2 := by rw [wrongQ, if_pos (by assumption)]
  exact ⟨_, by rw [he]; rfl, hE, fun h => by rw [he] at h; exact absurd h (by assumption)⟩
 refine CW.skip ?_
 refine hK3 _ _ ?_; try clear hK3
 refine CW.seq fun K7 hK7 => ?_
 refine CW.seq fun K8 hK8 => ?_
 have hok : (readE (ndsL l)).2 = 0 := Decidable.not_not.1 (by assumption)
 obtain ⟨r, rfl, hr, hM⟩ := hmv hok
 have hln := ok_len hok
 rw [List.length_map] at hln
 refine CW.region ?_
 refine WL.m rfl ?_
 refine WL.v (Y.len_slice Tryd.underlying157 rfl) ?_
 refine WL.m rfl ?_
 refine WL.nil (hK8 _ _ ?_); try clear hK8
 refine CW.block ?_
 refine CW.loop (X := Nat) (fun x => [(0, .slice A l.length c), (6, .map (some r)), (24, .slice A1 m1 c1), (25, .int .i64 (m1 : Int)), (26, .int .i64 (x : Int))]) (fun x w0 => x ≤ m1 ∧ (∀ i y d, i < x → ds[i]? = some y → d ∈ y.2 → d ∈ idsL (ndsL l)) ∧ Ext w w0 ∧ MapAt w0 r pme (placed (idsL (ndsL l))) l.length) (fun x => m1 - x) 0 Fr.ok ⟨Nat.zero_le _, (fun i y d h => by omega), hE, hM⟩ ?_
 intro x w2 hl2
 obtain ⟨i, rfl⟩ : ∃ i, i = x := ⟨x, rfl⟩
 obtain ⟨hxm, hin, hE, hM⟩ := hl2
 refine CW.sr fun K9 hK9 => ?_
 refine WL.v (Y.lss rfl rfl) ?_
 refine WL.nil (hK9 _ _ ?_); try clear hK9
 refine CW.seq fun K10 hK10 => ?_
 (first | refine cd_ rfl ?_ ?_ | refine ce_ rfl ?_ ?_ | refine cn_ rfl ?_ ?_ | refine cb_ rfl ?_ ?_) <;> intro ht11
 ·
  -- then
  refine CW.skip ?_
  refine hK10 _ _ ?_; try clear hK10
  refine CW.seq fun K12 hK12 => ?_
  refine CW.block ?_
  refine CW.seq fun K13 hK13 => ?_
  obtain ⟨⟨dv, dl⟩, hy⟩ : ∃ y, ds[i]? = some y := ⟨_, List.getElem?_eq_getElem om_⟩
  obtain ⟨a, rfl, hma⟩ := hdg _ _ hy
  have hdl := hdd _ (List.mem_of_getElem? hy)
  dsimp only at hdl hma
  obtain ⟨A2, c2, rfl, hdl2, hdl3⟩ := hdl.lens
  unfold maxLen at hdl3
  refine CW.region ?_
  refine WL.v (Y.indexAddrN Tryd.underlying157 rfl rfl sz0_sapiDigest om_) ?_
  refine WL.v (Y.load1 Tryd.underlying25 rfl ((hma.ext hE).cell0) rfl) ?_
  refine WL.a rfl ?_
  refine WL.nil (hK13 _ _ ?_); try clear hK13
  refine CW.sr fun K14 hK14 => ?_
  refine WL.m rfl ?_
  refine WL.v (Y.len_slice Tryd.underlying25 rfl) ?_
  refine WL.m rfl ?_
  refine WL.nil (hK14 _ _ ?_); try clear hK14
  refine CW.block ?_
  refine CW.loop (X := Nat) (fun x => [(0, .slice A l.length c), (6, .map (some r)), (24, .slice (some a) m1 c1), (25, .int .i64 (m1 : Int)), (26, .int .i64 (i : Int)), (30, .slice A2 dl.length c2), (31, .int .i64 (dl.length : Int)), (32, .int .i64 (x : Int))]) (fun x w0 => x ≤ dl.length ∧ (∀ j d, j < x → dl[j]? = some d → d ∈ idsL (ndsL l)) ∧ Ext w w0 ∧ MapAt w0 r pme (placed (idsL (ndsL l))) l.length) (fun x => dl.length - x) 0 Fr.ok ⟨Nat.zero_le _, (fun j d h => by omega), hE, hM⟩ ?_
  intro x w3 hl3
  obtain ⟨hzm, hin2, hE, hM⟩ := hl3
  refine CW.sr fun K15 hK15 => ?_
  refine WL.v (Y.lss rfl rfl) ?_
  refine WL.nil (hK15 _ _ ?_); try clear hK15
  refine CW.seq fun K16 hK16 => ?_
  (first | refine cd_ rfl ?_ ?_ | refine ce_ rfl ?_ ?_ | refine cn_ rfl ?_ ?_ | refine cb_ rfl ?_ ?_) <;> intro ht17
  ·
   -- then
   refine CW.skip ?_
   refine hK16 _ _ ?_; try clear hK16
   refine CW.seq fun K18 hK18 => ?_
   refine CW.block ?_
   refine CW.seq fun K19 hK19 => ?_
   obtain ⟨d, hd⟩ : ∃ d, dl[x]? = some d := ⟨_, List.getElem?_eq_getElem om_⟩
   obtain ⟨b, rfl, hmb⟩ := hdl.at hd
   refine CW.region ?_
   refine WL.v (Y.indexAddrN Tryd.underlying25 rfl rfl sz0_apiDigest om_) ?_
   refine WL.v (Y.load Tryd.underlying36 rfl (hmb.ext hE) (sz_apiDigest _) rfl) ?_
   refine as_apiDigest rfl (by simp) de_ fun g12 w4 hx4 hg12 hB12 => ?_
   have hlt12 := hB12.lt; have hz4 := hx4.size
   have hM12 := hB12.mem; have hz4 := hx4.size; have hE := hE.thenExt hx4
   refine WL.nil (hK19 _ _ ?_); try clear hK19
   refine CW.sr fun K20 hK20 => ?_
   refine WL.m rfl ?_
   refine WL.v (Y.load Tryd.underlying36 rfl hB12.mem (sz_apiDigest _) rfl) ?_
   refine WL.v (Y.lookupOk keyDig (fun _ => rfl) Tryd.underlying73 zero_int rfl rfl (hM.ext hx4)) ?_
   refine WL.m rfl ?_
   refine WL.v (Y.extract rfl rfl) ?_
   refine WL.v (Y.extract rfl rfl) ?_
   refine WL.a rfl ?_
   refine WL.a rfl ?_
   refine WL.nil (hK20 _ _ ?_); try clear hK20
   refine CW.sr fun K21 hK21 => ?_
   refine WL.m rfl ?_
   refine WL.v (Y.not rfl) ?_
   refine WL.nil (hK21 _ _ ?_); try clear hK21
   (first | refine cd_ rfl ?_ ?_ | refine ce_ rfl ?_ ?_ | refine cn_ rfl ?_ ?_ | refine cb_ rfl ?_ ?_) <;> intro ht22
   ·
    -- then
    refine CW.sr fun K23 hK23 => ?_
    refine WL.a rfl ?_
    refine WL.a rfl ?_
    refine WL.nil (hK23 _ _ ?_); try clear hK23
    refine CW.ret ⟨_, rfl, ?_⟩
    have hnd : ¬ d ∈ idsL (ndsL l) := fun h => by
     have h9 := ht22
     rw [placed_isSome] at h9
     simp_all
    have he : wrongQ (ndsL l) (ds.map Prod.snd).flatten = 5 := by
     rw [wrongQ, if_neg (by rw [hok]; decide), if_pos ⟨d, List.mem_flatten.2 ⟨dl, List.mem_map.2 ⟨_, List.mem_of_getElem? hy, rfl⟩, List.mem_of_getElem? hd⟩, hnd⟩]
    exact ⟨_, by rw [he], hE, fun h => by rw [he] at h; simp at h⟩
   refine CW.skip ?_
   refine hK18 _ _ ?_; try clear hK18
   refine CW.region ?_
   refine WL.v (Y.add rfl rfl o2_) ?_
   refine WL.m rfl ?_
   refine WL.nil ?_
   refine ⟨x + 1, by show dl.length - (x + 1) < dl.length - x; omega, Fr.ok, by show x + 1 ≤ dl.length; omega, ?_, hE, hM.ext hx4⟩
   intro j d2 hj h1
   by_cases e : j < x
   ·
    exact hin2 j d2 e h1
   ·
    have e2 : j = x := by omega
    subst e2
    rw [hd] at h1; cases h1
    have h9 := ht22
    rw [placed_isSome] at h9
    simpa using h9
  refine CW.exit ?_
  refine hK12 _ _ ?_; try clear hK12
  refine CW.region ?_
  refine WL.v (Y.add rfl rfl o2_) ?_
  refine WL.m rfl ?_
  refine WL.nil ?_
  refine ⟨i + 1, by show m1 - (i + 1) < m1 - i; omega, Fr.ok, by show i + 1 ≤ m1; omega, ?_, hE, hM⟩
  intro j y2 d2 hj hy2 hd2
  by_cases e : j < i
  ·
   exact hin j y2 d2 e hy2 hd2
  ·
   have e2 : j = i := by omega
   subst e2
   rw [hy] at hy2; cases hy2
   obtain ⟨k, hk⟩ := List.mem_iff_getElem?.1 hd2
   have hk : dl[k]? = some d2 := hk
   exact hin2 k d2 (by have := (List.getElem?_eq_some_iff.1 hk).1; omega) hk
 refine CW.exit ?_
 refine hK7 _ _ ?_; try clear hK7
 refine CW.sr fun K24 hK24 => ?_
 refine WL.m rfl ?_
 refine WL.m rfl ?_
 refine WL.m rfl ?_
 refine WL.v (Y.len_slice Tryd.underlying48 rfl) ?_
 refine WL.st (St.makeB Tryd.underlying82 hbi hbz hbs hbb rfl rfl om_) de_ fun v50 w5 hR5 => ?_
 obtain ⟨sb, rfl, hsb, hBs, hx5⟩ := hR5
 have hz5 := hx5.size
 have hE := hE.thenExt hx5
 have hlt5 := hBs.lt
 have hltM := hM.lt
 have hM := hM.ext hx5
 refine WL.v (Y.build rfl (build_look _ _ _ _ _ _)) ?_
 refine WL.box rfl rfl de_ fun g52 w6 hx6 hg52 hB52 => ?_
 have hlt52 := hB52.lt; have hz6 := hx6.size
 have hM52 := hB52.mem; have hz6 := hx6.size; have hE := hE.thenExt hx6
 refine WL.a rfl ?_
 refine WL.a rfl ?_
 refine WL.nil (hK24 _ _ ?_); try clear hK24
 refine CW.ret ⟨_, rfl, ?_⟩
 have he : wrongQ (ndsL l) (ds.map Prod.snd).flatten = 0 := by
  rw [wrongQ, if_neg (by rw [hok]; decide), if_neg]
  rintro ⟨d, hdm2, hn⟩
  obtain ⟨dl, h1, h2⟩ := List.mem_flatten.1 hdm2
  obtain ⟨y, h3, h4⟩ := List.mem_map.1 h1
  obtain ⟨j, hj⟩ := List.mem_iff_getElem?.1 h3
  exact hn (hin j y d (by have := (List.getElem?_eq_some_iff.1 hj).1; omega) hj (h4 ▸ h2))
 exact ⟨_, by rw [he], hE, fun _ => ⟨g52, r, sb, rfl, hl0, hE, ⟨by omega, by omega, by omega⟩, ⟨by omega, by omega, by omega⟩, hB52, hM.ext hx6, hBs.ext hx6, by simp, hok⟩⟩
end Go.Proofs.YtmehkigmnpjcjaaDoor
/- A look at a graph gone over: reach and its closure, walked: what the iterator promises. No condition. -/
namespace Go.Proofs.YtmehkigmnpjcjaaDoor
open Go.RowKit Go.Fw Go.Pl
abbrev TSd : TypeId := 25
end Go.Proofs.YtmehkigmnpjcjaaDoor
/- A look's marks, walked. No condition. -/
namespace Go.Proofs.YtmehkigmnpjcjaaDoor
open Go.RowKit Go.Fw Go.Pl
end Go.Proofs.YtmehkigmnpjcjaaDoor
/- Closures over a look's marks; slices.IndexFunc, ContainsFunc at digests, walked. No condition. -/
namespace Go.Pl
open Go.Fw
def bitAt (S : List Bool) (l : List Nd) (d : Dig) : Bool := S[ixN l d]?.getD false
end Go.Pl
namespace Go.Proofs.YtmehkigmnpjcjaaDoor
open Go.RowKit Go.Fw Go.Pl
end Go.Proofs.YtmehkigmnpjcjaaDoor
