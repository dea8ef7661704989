/- Parts of a proof: what its last text leans on. No condition. -/
import Derived.RangeFuncSeq
import Derived.Test.YtmehkigmnpjcjaaGreatDoorK09
set_option linter.unusedSimpArgs false
set_option linter.unusedVariables false
namespace Go.Fw
open Go.RowKit
def HL(P:Program)(ops:Array Oper)(w:World)(n:NN)(Ψ:Fr→Prop)(l:List Oper)(fr:Fr):Prop:=
 ∀a,ju n a fr→wpStill P ops w (fun a'=>∃f,ju n a' f∧Ψ f) l a
def WI(P:Program)(ops:Array Oper)(n:NN)(Φ:Exit→Fr→World→Prop)(l:List Oper)(fr:Fr)(w:World):Prop:=
 ∀a,ju n a fr→wpListIn (FX n.2.2) 0 P ops (lift n Φ) l a w
theorem zt{rd:Option Nat}{k l:Nat}{P:Program}{f:FuncId}{tmps:Array Value}{assign body:Code}{w:World}{R:Ending→World→Prop}(h:RoundIn (FX none) 0 P l f tmps assign body w R):RoundIn (FX rd) k P l f tmps assign body w R:=
 ⟨trivial,fun c cs _=>h.2 c cs (F0 _)⟩
section
variable {P:Program} {n:NN} {Φ:Exit→Fr→World→Prop} {fr:Fr} {w:World} {ops:Array Oper} {rest:List Oper} {Ψ:Fr→Prop}
theorem HL.nil(h:Ψ fr):HL P ops w n Ψ [] fr:=fun _ ha=>⟨fr,ha,h⟩
theorem HL.val{d:Nat}{o:Op}{ty:TypeId}{pos:String}{aft:Array Edge}{v:Value}(hy:Yw P n fr o ty w v w)(hd:d<n.1)(h:HL P ops w n Ψ rest ((d,v)::fr)):
  HL P ops w n Ψ (⟨some d,o,ty,pos,aft,none⟩::rest) fr:=fun a ha=>
 wpStill_step fun K hK=>by
  rw [if_pos (by simp [Region.wanted])];unfold Oper.still;rw [hy a _ rfl rfl ha];exact⟨rfl,hK _ (h _ (ha.put hd v))⟩
theorem HL.oU{d j dj:Nat}{b:Bool}{o:Op}{ty:TypeId}{pos:String}{aft:Array Edge}{v:Value}
  (hj:(ops[j]?).bind (·.dst)=some dj) (hg:fr.get dj=some (.bool b)) (hy:Yw P n fr o ty w v w) (hd:d<n.1) (h:HL P ops w n Ψ rest ((d,v)::fr)):
  HL P ops w n Ψ (⟨some d,o,ty,pos,aft,some (j,b)⟩::rest) fr:=fun a ha=>
 wpStill_step fun K hK=>by
  rw [if_pos (by simp [Region.wanted,dL ha hj hg])];unfold Oper.still;rw [hy a _ rfl rfl ha];exact⟨rfl,hK _ (h _ (ha.put hd v))⟩
theorem HL.nP{d j dj:Nat}{b:Bool}{o:Op}{ty:TypeId}{pos:String}{aft:Array Edge}
  (hj:(ops[j]?).bind (·.dst)=some dj) (hg:fr.get dj=some (.bool (!b))) (hd:d<n.1) (h:HL P ops w n Ψ rest ((d,undef)::fr)):
  HL P ops w n Ψ (⟨some d,o,ty,pos,aft,some (j,b)⟩::rest) fr:=fun a ha=>
 wpStill_step fun K hK=>by
  rw [if_neg (by simp [Region.wanted,dL ha hj hg])];exact hK _ (h _ (ha.put hd undef))
theorem HL.cases{l:List Oper}{d:Nat}{c:Bool}(hg:fr.get d=some (.bool c))
  (ht:c=true→HL P ops w n Ψ l ((d,.bool true)::fr)) (hf:c=false→HL P ops w n Ψ l ((d,.bool false)::fr)):HL P ops w n Ψ l fr:=by
 intro a ha;cases c with
 |true=>exact ht rfl a (ha.weaken (Fr.le.cons hg Fr.le.refl))
 |false=>exact hf rfl a (ha.weaken (Fr.le.cons hg Fr.le.refl))
theorem HL.sU{l:List Oper}{d:Nat}{p:Prop}{inst:Decidable p}(hg:fr.get d=some (.bool (@decide p inst)))
  (ht:p→HL P ops w n Ψ l ((d,.bool true)::fr)) (hf:¬p→HL P ops w n Ψ l ((d,.bool false)::fr)):HL P ops w n Ψ l fr:=
 HL.cases hg (fun h=>ht (@of_decide_eq_true p inst h)) (fun h=>hf (@of_decide_eq_false p inst h))
theorem HL.rG{l:List Oper}{d:Nat}{p:Prop}{inst:Decidable p}(hg:fr.get d=some (.bool (!@decide p inst)))
  (ht:¬p→HL P ops w n Ψ l ((d,.bool true)::fr)) (hf:p→HL P ops w n Ψ l ((d,.bool false)::fr)):HL P ops w n Ψ l fr:=
 HL.cases hg (fun h=>ht (@of_decide_eq_false p inst (by simpa using h))) (fun h=>hf (@of_decide_eq_true p inst (by simpa using h)))
theorem WI.nil(h:Φ .normal fr w):WI P ops n Φ [] fr w:=fun _ ha=>wpListIn_nil ⟨fr,ha,h⟩
theorem WI.val{d:Nat}{o:Op}{ty:TypeId}{pos:String}{aft:Array Edge}{v:Value}{w':World}
  (hy:Yw P n fr o ty w v w') (hd:d<n.1) (h:WI P ops n Φ rest ((d,v)::fr) w') (hnd:∀c,o≠.defer c:=by intro c h;cases h):WI P ops n Φ (⟨some d,o,ty,pos,aft,none⟩::rest) fr w:=fun a ha=>by
 unfold wpListIn;rw [if_pos (by simp [Region.wanted])];refine oG hnd ?_;unfold Oper.wp;rw [hy a _ rfl rfl ha];exact h _ (ha.put hd v)
theorem WI.yield{d t l:Nat}{args:List Operand}{tys:Array TypeId}{ty:TypeId}{pos:String}{aft:Array Edge}{vs:List Value}{R:Bool→World→Prop}
  (ht:fr.get t=some (.func (.yield l) #[] #[])) (he:pY fr args=some vs) (hY:YieldAt (FX none) 0 P l vs.toArray w (fun e w'=>∃b,e= .returned (.bool b)∧R b w')) (hd:d<n.1)
  (h:∀b w',R b w'→WI P ops n Φ rest ((d,.bool b)::fr) w'):WI P ops n Φ (⟨some d,.call {callee:= .value (.tmp t),args:=args.toArray,argTypes:=tys},ty,pos,aft,none⟩::rest) fr w:=fun a ha=>by
 unfold wpListIn;rw [if_pos (by simp [Region.wanted])];obtain⟨fn,tmps,assign,body,hy,hR⟩:=hY;have hrun:(execOp a.eval ⟨some d,.call {callee:= .value (.tmp t),args:=args.toArray,argTypes:=tys},ty,pos,aft,none⟩).run P w= .ok (.round l fn tmps assign body) w:=by
  have h1:=ha.pY he;have h2:a.eval (.tmp t)= .func (.yield l) #[] #[]:=ha.ev (x:= .tmp t) ht;simp [execOp,resolve,invoke,Deferred.ofValue,h2,h1,hy]
 refine⟨fun _ _=>trivial,?_⟩;rw [Oper.semAt_eq _ _ _ (by intro c hc;cases hc),hrun];refine⟨fun hx=>by simp [FX]at hx,(zt hR).mono fun e w' he=>?_⟩;obtain⟨b,rfl,hb⟩:=he;exact h b w' hb _ (ha.put hd _)
theorem wF{rd:Option Nat}{l:List Oper}(hd:jd l=true){i:Nat}{a:Act}{K:Act→Prop}{K':Act→World→Prop}{Q':Exit→Act→World→Prop}(h:∀a,K a→K' a w)(hh:stOp P l.toArray w i K a):wpOpIn (FX rd) 0 P l.toArray Q' i K' a w:=by
 unfold stOp at hh;unfold wpOpIn;split
 ·rename_i ho;simp only [ho]at hh;exact h _ hh
 ·rename_i o ho;simp only [ho]at hh;split
  ·rename_i hw;simp only [hw,if_true]at hh;exact oG (oE hd (by simpa using ho)) (Oper.wp_of_still h hh)
  ·rename_i hw;simp only [hw]at hh;exact⟨fun _ _=>trivial,h _ hh⟩
theorem pn{rd:Option Nat}{l:List Oper}(hd:jd l=true){k g:Nat}{L:Array Bool→Act→Prop}{Q':Exit→Act→World→Prop}(hL:∀listed a,L listed a→wpAnyIn (FX rd) 0 P .any l.toArray Q' g listed a w):
  ∀(f:Nat) (listed:Array Bool) (a:Act),wpAnyL P .any l.toArray w k L f listed a→wpAnyIn (FX rd) 0 P .any l.toArray Q' (f+g) listed a w
 |0,listed,a,h=>by rw [Nat.zero_add];exact hL _ _ h
 |f+1,listed,a,h=>by
  rw [show f+1+g=(f+g)+1 by omega];exact⟨fun h0=>absurd h0 h.1,fun i hi=>wF hd (fun a' h'=>pn hd hL f _ a' h') (h.2 i hi).2⟩
theorem qM{rd:Option Nat}{ops:Array Oper}{Q':Exit→Act→World→Prop}:∀(l:List Oper) (k:Nat) (listed:Array Bool) (a:Act) (w:World),(∀j,l[j]? =ops[k+j]?)→
  Region.seqB .any ops l.length k listed=true→wpListIn (FX rd) 0 P ops Q' l a w→wpAnyIn (FX rd) 0 P .any ops Q' l.length listed a w
 | [],_,_,_,_,_,hB,h=>⟨by simpa [Region.seqB]using hB,h⟩
 |o::l,k,listed,a,w,hl,hB,h=>by
  have h0:ops[k]? =some o:=by simpa using(hl 0).symm
  simp only [List.length_cons,Region.seqB,Bool.and_eq_true,decide_eq_true_eq]at hB;refine⟨fun h1=>(by rw [hB.1]at h1;cases h1),fun i hi=>?_⟩;rw [hB.1]at hi;have hik:i=k:=by simpa using hi
  subst hik;have hw:wpOpIn (FX rd) 0 P ops Q' i (wpListIn (FX rd) 0 P ops Q' l) a w:=by unfold wpOpIn;simp only [h0];exact h
  exact wpOpIn_mono (fun a' w' h'=>qM l (i+1) _ a' w' (fun j=>by have:=hl (j+1);simpa [Nat.add_assoc,Nat.add_comm 1 j]using this) hB.2 h') hw
theorem CW.Jj{id:Nat}{l:List Oper}(k:Nat)(hm:P.follows .mixedOrders=true)(hB:Region.lexTailB .any l.toArray k=true)
  (h:∀w',Ext w w'→HL P l.toArray w' n (fun f=>WI P l.toArray n Φ (l.drop k) f w') (l.take k) fr) (hd:jd l=true:=by rfl):CW P (.region id l.toArray true) n Φ fr w:=fun a ha=>by
 have h:=h w.drew aE.drew a ha;simp only [Region.lexTailB,Bool.and_eq_true,decide_eq_true_eq]at hB;obtain⟨⟨⟨⟨hsel,hn⟩,hs⟩,hc⟩,hlex⟩:=hB;have hn':k<l.length:=by simpa using hn
 have htl:(l.take k).length=k:=by simp;omega
 have hdl:(l.drop k).length=l.toArray.size-k:=by simp
 have inv0:HeadInv .any l.toArray k (Array.replicate l.toArray.size false):=
  ⟨by simp,fun j oj _ hl=>(by rw [getD_replicate_false]at hl;cases hl),fun t _ ht=>getD_in (by simpa using ht) (getD_replicate_false _ _)⟩
 have H:=wpAnyL_lex (md:= .any) (g:=l.toArray.size-k) hsel hs hc hn (l.take k) 0 _ a (fun j hj=>by
  have hj':j<k:=by rw [htl]at hj;exact hj
  simp [hj']) (by simpa using htl) inv0 (by rw [htl];exact hlex) h
 refine wpIn_region_any hm ?_;have:=pn (rd:=n.2.2) (Q':=lift n Φ) hd (g:=l.toArray.size-k) (fun listed a' hL=>by
  obtain⟨f,hf,hW⟩:=hL.2;have:=qM (rd:=n.2.2) (Q':=lift n Φ) (l.drop k) k listed a' w.drew (fun j=>by simp [List.getElem?_drop]) (by rw [hdl];exact hL.1) (hW a' hf);rwa [hdl]at this) _ _ _ H
 rw [htl,show k+(l.toArray.size-k)=l.toArray.size by omega]at this;exact this
theorem CW.head{id:Nat}{l:List Oper}(k:Nat)(hm:P.follows .mixedOrders=true)(hB:Region.lexTailB .any l.toArray k=true)
  (h:∀w',Ext w w'→HL P l.toArray w' n (fun f=>WL P l.toArray n Φ (l.drop k) f w') (l.take k) fr) (hR:tR n l Φ:=by first|exact .inl rfl|exact .inr ⟨rfl,fun _ _ h=>h⟩):CW P (.region id l.toArray true) n Φ fr w:=fun a ha=>by
 have h:=h w.drew aE.drew a ha;simp only [Region.lexTailB,Bool.and_eq_true,decide_eq_true_eq]at hB;obtain⟨⟨⟨⟨hsel,hn⟩,hs⟩,hc⟩,hlex⟩:=hB;have hn':k<l.length:=by simpa using hn
 have htl:(l.take k).length=k:=by simp;omega
 have hdl:(l.drop k).length=l.toArray.size-k:=by simp
 have inv0:HeadInv .any l.toArray k (Array.replicate l.toArray.size false):=
  ⟨by simp,fun j oj _ hl=>(by rw [getD_replicate_false]at hl;cases hl),fun t _ ht=>getD_in (by simpa using ht) (getD_replicate_false _ _)⟩
 have H:=wpAnyL_lex (md:= .any) (g:=l.toArray.size-k) hsel hs hc hn (l.take k) 0 _ a (fun j hj=>by
  have hj':j<k:=by rw [htl]at hj;exact hj
  simp [hj']) (by simpa using htl) inv0 (by rw [htl];exact hlex) h
 refine nW hR hm ?_;have:=wpAny_of_head (Q':=lift n Φ) (g:=l.toArray.size-k) (fun listed a' hL=>by
  obtain⟨f,hf,hW⟩:=hL.2;have:=wpAny_of_seq (md:= .any) (Q':=lift n Φ) (l.drop k) k listed a' w.drew (fun j=>by simp [List.getElem?_drop]) (by rw [hdl];exact hL.1) (hW a' hf);rwa [hdl]at this) _ _ _ H
 rw [htl,show k+(l.toArray.size-k)=l.toArray.size by omega]at this;exact this
end
def IV(m:Nat)(rd:Option Nat)(Φ:Exit→List Deferred→Fr→World→Prop):Exit→Act→World→Prop:=fun e a w=>∃ds fr,ju (m,ds,rd) a fr∧Φ e ds fr w
def CN(P:Program)(c:Code)(m:Nat)(rd:Option Nat)(ds:List Deferred)(Φ:Exit→List Deferred→Fr→World→Prop)(fr:Fr)(w:World):Prop:=∀a,ju (m,ds,rd) a fr→c.wpIn (FX rd) 0 P (IV m rd Φ) a w
@[reducible] def Iz(K:List Deferred→Fr→World→Prop)(Φ:Exit→List Deferred→Fr→World→Prop):Exit→List Deferred→Fr→World→Prop
 | .normal,ds,f,w=>K ds f w
 |e,ds,f,w=>Φ e ds f w
@[reducible] def FA(id:Nat)(Φ:Exit→List Deferred→Fr→World→Prop):Exit→List Deferred→Fr→World→Prop
 | .exit id',ds,f,w=>if id'=id then Φ .normal ds f w else Φ (.exit id') ds f w
 |e,ds,f,w=>Φ e ds f w
section
variable {P:Program} {m:Nat} {rd:Option Nat} {ds:List Deferred} {Φ:Exit→List Deferred→Fr→World→Prop} {fr:Fr} {w:World}
theorem CN.jD{c:Code}(h:CW P c (m,ds,rd) (fun e f w=>Φ e ds f w) fr w):CN P c m rd ds Φ fr w:=fun a ha=>wpIn_mono (h a ha) fun _ _ _ ⟨f,hf,hp⟩=>⟨ds,f,hf,hp⟩
theorem CN.weaken{c:Code}{g:Fr}(hl:Fr.le g fr)(h:CN P c m rd ds Φ g w):CN P c m rd ds Φ fr w:=fun a ha=>h a (ha.weaken hl)
theorem CN.seq{x y:Code}(h:∀K:List Deferred→Fr→World→Prop,(∀ds f w,CN P y m rd ds Φ f w→K ds f w)→CN P x m rd ds (Iz K Φ) fr w):CN P (.seq x y) m rd ds Φ fr w:=by
 intro a ha;refine wpIn_seq (wpIn_mono (h (fun ds f w=>CN P y m rd ds Φ f w) (fun _ _ _ h=>h) a ha) ?_);rintro e a' w' ⟨ds',f,hf,hp⟩;cases e<;>first|exact hp a' hf|exact⟨ds',f,hf,hp⟩
theorem CN.skip(h:Φ .normal ds fr w):CN P .skip m rd ds Φ fr w:=fun _ ha=>wpIn_skip ⟨ds,fr,ha,h⟩
theorem CN.ret(h:Φ .ret ds fr w):CN P .ret m rd ds Φ fr w:=fun _ ha=>wpIn_ret ⟨ds,fr,ha,h⟩
theorem CN.cond{c:Operand}{x y:Code}{t:Bool}(hc:ev fr c=some (.bool t))(ht:t=true→CN P x m rd ds Φ fr w)(hf:t=false→CN P y m rd ds Φ fr w):
  CN P (.cond c x y) m rd ds Φ fr w:=fun a ha=>wpIn_cond_split (ha.ev hc) (fun h=>ht h a ha) (fun h=>hf h a ha)
theorem CN.AG{c:Operand}{x y:Code}{p:Prop}{inst:Decidable p}(hc:ev fr c=some (.bool (@decide p inst)))(ht:p→CN P x m rd ds Φ fr w)(hf:¬p→CN P y m rd ds Φ fr w):
  CN P (.cond c x y) m rd ds Φ fr w:=CN.cond hc (fun h=>ht (@of_decide_eq_true p inst h)) (fun h=>hf (@of_decide_eq_false p inst h))
theorem CN.vD{c:Operand}{x y:Code}{p:Prop}{inst:Decidable p}(hc:ev fr c=some (.bool (!@decide p inst)))(ht:¬p→CN P x m rd ds Φ fr w)(hf:p→CN P y m rd ds Φ fr w):
  CN P (.cond c x y) m rd ds Φ fr w:=CN.cond hc (fun h=>ht (@of_decide_eq_false p inst (by simpa using h))) (fun h=>hf (@of_decide_eq_true p inst (by simpa using h)))
theorem CN.A0{c:Operand}{x y:Code}{b:Bool}(hc:ev fr c=some (.bool (!b)))(ht:b=false→CN P x m rd ds Φ fr w)(hf:b=true→CN P y m rd ds Φ fr w):
  CN P (.cond c x y) m rd ds Φ fr w:=CN.cond hc (fun h=>ht (by simpa using h)) (fun h=>hf (by simpa using h))
theorem CN.block{id:Nat}{c:Code}(h:CN P c m rd ds (FA id Φ) fr w):CN P (.block id c) m rd ds Φ fr w:=by
 intro a ha;refine wpIn_block (wpIn_mono (h a ha) ?_);rintro e a' w' ⟨ds',f,hf,hp⟩;cases e with
 |exit id'=>
  simp only [FA]at hp;simp only [Exit.inBlock];split at hp<;>rename_i hid
  ·rw [if_pos hid];exact⟨ds',f,hf,hp⟩
  ·rw [if_neg hid];exact⟨ds',f,hf,hp⟩
 |normal=>exact⟨ds',f,hf,hp⟩
 |goto l=>exact⟨ds',f,hf,hp⟩
 |ret=>exact⟨ds',f,hf,hp⟩
 |panic c=>exact⟨ds',f,hf,hp⟩
 |outgrown=>exact⟨ds',f,hf,hp⟩
end
theorem aE.putObj{S:Nat→Prop}{w:World}{r:Nat}(o:Obj)(h:S r):aE S w (w.putObj r o):=
 ⟨rfl,rfl,rfl,by simp,fun k _ hn=>World.putObj_heap_other (fun e=>hn (e▸h)),Nat.le_refl _⟩
abbrev mark(D:Nat):Deferred:={target:= .collected D,args:=#[]}
def zS:List Nat→List Value→Fr→Fr
 |p::ps,v::vs,f=>zS ps vs ((p,v)::f)
 |_,_,f=>f
theorem ju.zip{m:Nat}{ds:List Deferred}{rd:Option Nat}:∀{ps:List Nat} {vs:List Value} {t:Array Value} {fr:Fr},(∀p∈ps,p<m)→ju (m,ds,rd) {tmps:=t,defers:=ds} fr→
  ju (m,ds,rd) {tmps:=(ps.zip vs).foldl (fun t (p,v)=>t.setIfInBounds p v) t,defers:=ds} (zS ps vs fr)
 | [],_,_,_,_,h=>by simpa [zS]using h
 |_::_,[],_,_,_,h=>by simpa [zS]using h
 |p::ps,v::vs,t,fr,hp,h=>by
  have h1:=h.put (hp p aL) v;have:=ju.zip (ps:=ps) (vs:=vs) (t:=t.setIfInBounds p v) (fr:=(p,v)::fr) (fun q hq=>hp q (by simp [hq])) h1;simpa [zS]using this
@[reducible] def HZ(l D:Nat)(Kp:Nat→Prop)(I':World→Prop)(Ix:Exit→World→Prop)(V2:World):Exit→Fr→World→Prop
 | .normal,_,V3=>I' V3∧aE (fun k=>¬Kp k∧k≠l∧k≠D) V2 V3
 | .ret,_,V3=>Ix .ret V3∧aE (fun k=>¬Kp k∧k≠l∧k≠D) V2 V3
 | .exit id,_,V3=>Ix (.exit id) V3∧aE (fun k=>¬Kp k∧k≠l∧k≠D) V2 V3
 | .goto t,_,V3=>Ix (.goto t) V3∧aE (fun k=>¬Kp k∧k≠l∧k≠D) V2 V3
 |_,_,_=>False
theorem FP{S:Nat→Prop}{w w':World}{D:Nat}(h:w.heap[D]? =some (.deferred (some [])))(hc:aE S w w')(hs:¬S D):w'.heap[D]? =some (.deferred (some [])):=(hc.block D (Array.getElem?_eq_some_iff.1 h).1 hs).trans h
@[reducible] def Ia(ts:List Nat)(R:Value→World→Prop)(ds:List Deferred)(fr:Fr)(w:World):Prop:=
 ∃Ds:List Nat,ds=Ds.map mark∧Ds.Nodup∧(∀D∈Ds,w.heap[D]? =some (.deferred (some [])))∧∃v,zZ fr ts=some v∧∀w',aE (fun k=>k∈Ds) w w'→R v w'
@[reducible] def I3(ts:List Nat)(R:Value→World→Prop):Exit→List Deferred→Fr→World→Prop
 | .normal,ds,fr,w=>Ia ts R ds fr w
 | .ret,ds,fr,w=>Ia ts R ds fr w
 |_,_,_,_=>False
theorem pt{P:Program}{fn:Func}{tmps:Array Value}{v:Value}(hv:∀w,(results fn tmps).run P w= .ok v w){R:Value→World→Prop}:∀(Ds:List Nat) (w:World),Ds.Nodup→(∀D∈Ds,w.heap[D]? =some (.deferred (some [])))→
  (∀w',aE (fun k=>k∈Ds) w w'→R v w')→LeavesInM (FX none) 0 P fn tmps (cB R) (Ds.map mark) .returning w
 | [],w,_,_,h=>⟨v,hv w,h w aE.refl⟩
 |D::Ds,w,hn,hD,h=>by
  have hn':=List.nodup_cons.1 hn;refine⟨by simp,.inl ⟨D,w.putObj D (.deferred none),rfl,run_takeDeferred (hD D aL),?_⟩⟩;refine pt hv Ds _ hn'.2 (fun E hE=>(World.putObj_heap_other (fun e=>hn'.1 (by rw [←e];exact hE))).trans (hD E (List.mem_cons_of_mem _ hE))) fun w' hc=>?_;exact h w' ((aE.putObj (S:=fun k=>k∈D::Ds) _ aL).trans (hc.mono (T:=fun k=>k∈D::Ds) fun k _ hk=>List.mem_cons_of_mem _ hk) (fun _ _ h=>h))
theorem q8{P:Program}{w:World}{f:FuncId}{fn:Func}{c:Code}{args:List Value}{R:Value→World→Prop}(m:Nat)(ts:List Nat)(fr0:Fr)
  (hf:P.funcs[f]? =some fn) (hb:fn.body=some c) (hm:fn.ntmps=m) (hr:fn.results=(ts.map ResultVar.tmp).toArray)
  (hsz:args.length≤m) (hargs:∀t v,fr0.get t=some v→args[t]? =some v)
  (h:CN P c m none [] (I3 ts R) fr0 w):Calls P f args.toArray w (cB R):=by
 refine oq.1 (callsIn_of_wp_marks (F:=FX none) (n:=0) hf hb trivial ?_);have hrep:ju (m,[],none) {tmps:=args.toArray++Array.replicate (fn.ntmps-args.toArray.size) undef,defers:=[]} fr0:=by
  refine⟨by simp [hm];omega,rfl,fun t v hv=>?_⟩;have h1:=hargs t v hv;have hlt:t<args.length:=(List.getElem?_eq_some_iff.1 h1).1;simpa [Array.getElem?_append,hlt]using(List.getElem?_eq_some_iff.1 h1).2
 refine wpIn_mono (h _ hrep) ?_;rintro e a' w' ⟨ds',fr',hf',hp⟩;have fin:Ia ts R ds' fr' w'→LeavesInM (FX none) 0 P fn a'.tmps (cB R) a'.defers .returning w':=by
  rintro⟨Ds,rfl,hnd,hD,v,hv,hR⟩;have e:a'.defers=Ds.map mark:=hf'.defers;rw [e];exact pt (fun w=>mK hf' hr hv w) Ds w' hnd hD hR
 cases e with
 |normal=>exact fin hp
 |ret=>exact fin hp
 |exit id=>exact hp
 |goto l=>exact hp
 |panic ch=>exact hp.elim
 |outgrown=>exact hp.elim
end Go.Fw
namespace Go.Pl
open Go.Fw
def jh(l:List Nd)(d:aD):Nat:=(bz l).idxOf d
def bP(l:List Nd)(S:List Bool)(ds:List aD):List Bool:=ds.foldl (fun S d=>S.set (jh l d) true) S
def kv(l:List Nd)(ids:List aD):List Bool:=bP l (List.replicate l.length false) ids
def yt(l:List Nd)(S:List Bool)(i:Nat):List Bool:=match l[i]? with
 |some n=>if S[i]? =some true then bP l S n.ps else S
 |none=>S
def iK(l:List Nd):Nat→List Bool→List Bool
 |0,S=>S
 |i+1,S=>iK l i (yt l S i)
def fJ(l:List Nd)(ids:List aD):List Bool:=iK l l.length (kv l ids)
def ks(l:List Nd):Nat→List Bool→List Nat
 |0,_=>[]
 |i+1,S=>if S[i]? =some true then i::ks l i (yt l S i)else ks l i S
def Fo(l:List Nd)(ids:List aD):List Nat:=ks l l.length (kv l ids)
theorem cE{l:List Nd}:∀{ds:List aD} {S:List Bool},(bP l S ds).length=S.length
 | [],_=>rfl
 |d::ds,S=>by
  have:=cE (l:=l) (ds:=ds) (S:=S.set (jh l d) true);rw [List.length_set]at this;exact this
theorem iN{l:List Nd}{S:List Bool}{ds:List aD}{d:aD}:bP l S (ds++[d])=(bP l S ds).set (jh l d) true:=by simp [bP,List.foldl_append]
theorem jH{l:List Nd}{ids:List aD}:(kv l ids).length=l.length:=by rw [kv,cE,List.length_replicate]
theorem sT{l:List Nd}{S:List Bool}{i:Nat}:(yt l S i).length=S.length:=by
 unfold yt;split
 ·split
  ·exact cE
  ·rfl
 ·rfl
theorem vX{l:List Nd}{S:List Bool}{i:Nat}(h:S[i]? ≠some true):yt l S i=S:=by
 unfold yt;split
 ·rw [if_neg h]
 ·rfl
theorem wk{l:List Nd}{S:List Bool}{i:Nat}{n:Nd}(hn:l[i]? =some n)(h:S[i]? =some true):yt l S i=bP l S n.ps:=by
 unfold yt;rw [hn];simp only;rw [if_pos h]
theorem sK:∀{l:List Nd} {a:List aD} {i:Nat},(fQ l a i).2=0→∀(j:Nat) (n:Nd),l[j]? =some n→dx (a++bz (l.take j)) n=0
 | [],_,_,_,j,n,h=>by simp at h
 |x::r,a,i,h,j,n,hn=>by
  rw [fQ]at h;split at h
  ·rename_i hx;cases j with
   |zero=>simp at hn;subst hn;simpa using hx
   |succ j=>
    have:=sK (l:=r) h j n (by simpa using hn);simpa [bz]using this
  ·rename_i hx;exact absurd h hx
theorem lT{l:List Nd}(h:(bL l).2=0):l.length≤200:=by
 unfold bL at h;split at h
 ·simp at h
 ·omega
theorem Df{l:List Nd}(h:(bL l).2=0){i:Nat}{n:Nd}(hi:l[i]? =some n):dx (bz (l.take i)) n=0:=by
 have hl:=lT h;rw [bL,if_neg ai]at h;simpa using sK h i n hi
theorem Ad{l:List Nd}(h:(bL l).2=0){i:Nat}{n:Nd}(hi:l[i]? =some n){p:aD}(hp:p∈n.ps):p∈bz (l.take i):=(sZ (Df h hi)).2.2.2 p hp
theorem qU{l:List Nd}{i:Nat}{p:aD}(h:p∈bz (l.take i)):p∈bz l:=by
 obtain⟨n,hn,he⟩:=List.mem_map.1 h;exact List.mem_map.2 ⟨n,List.mem_of_mem_take hn,he⟩
theorem ic{l:List Nd}{d:aD}(h:d∈bz l):jh l d<l.length:=by
 have:=List.idxOf_lt_length_iff.2 h;simpa [jh]using this
theorem lk{l:List Nd}:∀{k:Nat} {S:List Bool} {x:Nat},x∈ks l k S→x<k
 |0,_,_,h=>by cases h
 |k+1,S,x,h=>by
  rw [ks]at h;split at h
  ·rcases List.mem_cons.1 h with h|h
   ·omega
   ·have:=lk h;omega
  ·have:=lk h;omega
theorem mZ{l:List Nd}{d:aD}(h:d∈bz l):∃j,cV Prod.fst d (eu (bz l)) 0=some (j,(d,jh l d)):=by
 cases hf:cV Prod.fst d (eu (bz l)) 0 with
 |none=>
  have:=da (d:=d) (ids:=bz l) (k:=0) (i:=0);rw [show(bz l).zipIdx 0=eu (bz l)from rfl,hf]at this;simp [h]at this
 |some p=>
  obtain⟨j,e⟩:=p;obtain⟨h1,h2,h3,h4⟩:=mA (k:=0) hf;refine⟨j,?_⟩;simp only [Nat.sub_zero]at h2 h4;have h5:=o8 (i:=e.2) h2 h4;rw [gw,if_pos h]at h5;have h6:jh l d=e.2:=by unfold jh;omega
  rw [←h1,h1,h6];have:e=(d,e.2):=by rw [←h1]
  rw [this]
end Go.Pl
namespace Go.Fw
section
variable {w:World} {a:Addr} {v0 v1 v2:Value}
theorem Mem.lO(h:Mem w a [v0,v1,v2]):w.cell? (a.add 0)=some v0:=h.cell 0 rfl
theorem Mem.sz(h:Mem w a [v0,v1,v2]):w.cell? (a.add 1)=some v1:=h.cell 1 rfl
end
end Go.Fw
namespace Go.Proofs.YtmehkigmnpjcjaaGreatDoor
open Go.RowKit Go.Fw Go.Pl Go.Proofs.Tryz
abbrev JH:TypeId:=134
abbrev oC:TypeId:=4
structure j7(w0 w:World)(gk r sb:Nat)(u:Value)(l:List gj)(S:List Bool):Prop where
 yk:oR w0 u l
 old:Ext w0 w
 new:w0.heap.size≤gk∧w0.heap.size≤r∧w0.heap.size≤sb
 ne:gk≠r∧gk≠sb∧r≠sb
 bY:aK w gk JH [u,.map (some r),.slice (some ⟨sb,0,none⟩) l.length l.length]
 map:b7 w r zI (eu (bz (aQ l))) l.length
 seen:aK w sb oC (b8 S)
 len:S.length=l.length
 ok:(bL (aQ l)).2=0
section
variable {w0 w w':World} {gk r sb:Nat} {u:Value} {l:List gj} {S S':List Bool} {T:Nat→Prop}
theorem j7.lt(h:j7 w0 w gk r sb u l S):gk<w.heap.size∧r<w.heap.size∧sb<w.heap.size:=⟨h.bY.lt,h.map.lt,h.seen.lt⟩
theorem j7.aA(h:j7 w0 w gk r sb u l S)(hc:aE T w w')(h1:¬T gk)(h2:¬T r)(h3:¬T sb)(h4:∀k,T k→w0.heap.size≤k):j7 w0 w' gk r sb u l S:=
 ⟨h.yk,h.old.step hc h4,h.new,h.ne,h.bY.aA hc h1,h.map.aA hc h2,h.seen.aA hc h3,h.len,h.ok⟩
theorem j7.ext(h:j7 w0 w gk r sb u l S)(hc:Ext w w'):j7 w0 w' gk r sb u l S:=h.aA hc (fun f=>f) (fun f=>f) (fun f=>f) (fun _ f=>f.elim)
end
end Go.Proofs.YtmehkigmnpjcjaaGreatDoor
namespace Go.Proofs.YtmehkigmnpjcjaaGreatDoor
open Go.RowKit Go.Fw Go.Pl Go.Proofs.Tryz
theorem iS:∃i:TypeInfo,prog.info? oC=some i∧i.zero=some (.bool false)∧i.size=1∧i.bytes=1:=by
 have h:(prog.info? oC).map (fun i=>(i.zero,i.size,i.bytes))=some (some (.bool false),1,1):=by kernel_rfl
 cases hi:prog.info? oC with
 |none=>simp [hi]at h
 |some i=>simp [hi]at h;exact⟨i,rfl,h.1,h.2.1,h.2.2⟩
abbrev cQ:=@eO
theorem wL:(prog.info? 25).map (·.size)=some 1:=by kernel_rfl
abbrev sL:=@wL
theorem i7:bh prog JH 0 0:=⟨_,_,1,underlying134,rfl,by kernel_rfl,by decide,rfl⟩
theorem nB:bh prog JH 1 1:=⟨_,_,1,underlying134,rfl,by kernel_rfl,by decide,rfl⟩
theorem yZ(A:Option Addr)(n c r sb:Nat)(w:World):(Instr.build JH [(0,.slice A n c),(1,.map (some r)),(2,.slice (some ⟨sb,0,none⟩) n n)].toArray).run prog w= .ok (.agg #[.slice A n c,.map (some r),.slice (some ⟨sb,0,none⟩) n n]) w:=run_build w _ _ _ aG
theorem Ac(u v0:Value)(l:List gj)(ds:List (Value×List aD))(w:World)(hl:oR w u l)(hd:Sl w (fun x:Value×List aD=>[x.1]) 1 v0 ds)(hdd:∀x∈ds,Sl w aN 32 x.1 x.2):Calls prog 51 #[u,v0] w (cB fun v w'=>∃p,v= .tuple #[.pointer p,.int .i64 (eh (aQ l) (ds.map Prod.snd).flatten)]∧Ext w w'∧(eh (aQ l) (ds.map Prod.snd).flatten=0→∃gk r sb,p=some ⟨gk,0,none⟩∧j7 w w' gk r sb u l (List.replicate l.length false))):=by
 have hl0:=hl;obtain⟨A,c,rfl,hmc,hcm⟩:=hl.sl.lens;obtain⟨A1,m1,c1,rfl,hdm,hdc,hdx,hdg⟩:=hd;unfold maxLen at hcm hdx;obtain⟨bi,hbi,hbz,hbs,hbb⟩:=iS;refine ar 53 [4,5] [(0,.slice A l.length c),(1,.slice A1 m1 c1)] func51 rfl rfl rfl aL cz ?_;have hE:Ext w w:=aE.refl;refine CW.sr fun K1 hK1=>WL.a rfl<|WL.a rfl<|WL.nil (hK1 _ _ ?_);clear hK1;refine CW.sr fun K2 hK2=>WL.m rfl<|WL.call func78 rfl rfl rfl (BV _ l _ hl0) aL ?_;rintro v17 w1 hR1;obtain⟨mv,rfl,hmv,hx1⟩:=hR1;have hz1:=hx1.size;have hE:=hE.ae hx1;refine WL.m rfl<|WL.v (Y.extract rfl rfl)<|WL.v (Y.extract rfl rfl)<|WL.v (Y.extract rfl rfl)<|WL.a rfl<|WL.a rfl<|WL.a rfl<|WL.nil (hK2 _ _ ?_);clear hK2;refine CW.seq fun K3 hK3=>CW.sr fun K4 hK4=>WL.m rfl<|WL.v (Y.neq rfl rfl)<|WL.nil (hK4 _ _ ?_);clear hK4;refine bp ?_ ?_<;>intro ht5
 ·refine CW.sr fun K6 hK6=>WL.m rfl<|WL.a rfl<|WL.a rfl<|WL.nil (hK6 _ _ ?_);clear hK6;refine CW.ret ⟨_,rfl,?_⟩;have he:eh (aQ l) (ds.map Prod.snd).flatten=(bL (aQ l)).2:=by rw [eh,if_pos (by assumption)]
  exact⟨_,by rw [he];rfl,hE,fun h=>by rw [he]at h;exact absurd h (by assumption)⟩
 refine CW.skip ?_;refine hK3 _ _ ?_;clear hK3;refine CW.seq fun K7 hK7=>CW.seq fun K8 hK8=>?_;have hok:(bL (aQ l)).2=0:=Decidable.not_not.1 (by assumption);obtain⟨r,rfl,hr,hM⟩:=hmv hok;have hln:=lT hok;rw [List.length_map]at hln;refine CW.region<|WL.m rfl<|WL.v (Y.aq underlying165 rfl)<|WL.m rfl<|WL.nil (hK8 _ _ ?_);clear hK8;refine CW.block ?_;refine CW.loop (X:=Nat) (fun x=>[(0,.slice A l.length c),(6,.map (some r)),(24,.slice A1 m1 c1),(25,.int .i64 (m1:Int)),(26,.int .i64 (x:Int))]) (fun x w0=>x≤m1∧(∀i y d,i<x→ds[i]? =some y→d∈y.2→d∈bz (aQ l))∧Ext w w0∧b7 w0 r zI (eu (bz (aQ l))) l.length) (fun x=>m1-x) 0 Fr.ok ⟨Nat.zero_le _,(fun i y d h=>by omega),hE,hM⟩ ?_;intro x w2 hl2;obtain⟨i,rfl⟩:∃i,i=x:=⟨x,rfl⟩;obtain⟨hxm,hin,hE,hM⟩:=hl2;refine CW.sr fun K9 hK9=>WL.v (Y.lss rfl rfl)<|WL.nil (hK9 _ _ ?_);clear hK9;refine CW.seq fun K10 hK10=>?_;refine bp ?_ ?_<;>intro ht11
 ·refine CW.skip ?_;refine hK10 _ _ ?_;clear hK10;refine CW.seq fun K12 hK12=>?_;refine CW.block<|CW.seq fun K13 hK13=>?_;obtain⟨⟨dv,dl⟩,hy⟩:∃y,ds[i]? =some y:=⟨_,List.getElem?_eq_getElem ai⟩;obtain⟨a,rfl,hma⟩:=hdg _ _ hy;have hdl:=hdd _ (List.mem_of_getElem? hy);dsimp only at hdl hma;obtain⟨A2,c2,rfl,hdl2,hdl3⟩:=hdl.lens;unfold maxLen at hdl3;refine CW.region<|WL.v (Y.af underlying165 rfl rfl sL ai)<|WL.v (Y.ah underlying25 rfl ((hma.ext hE).cell0) rfl)<|WL.a rfl<|WL.nil (hK13 _ _ ?_);clear hK13;refine CW.sr fun K14 hK14=>WL.m rfl<|WL.v (Y.aq underlying25 rfl)<|WL.m rfl<|WL.nil (hK14 _ _ ?_);clear hK14;refine CW.block ?_;refine CW.loop (X:=Nat) (fun x=>[(0,.slice A l.length c),(6,.map (some r)),(24,.slice (some a) m1 c1),(25,.int .i64 (m1:Int)),(26,.int .i64 (i:Int)),(30,.slice A2 dl.length c2),(31,.int .i64 (dl.length:Int)),(32,.int .i64 (x:Int))]) (fun x w0=>x≤dl.length∧(∀j d,j<x→dl[j]? =some d→d∈bz (aQ l))∧Ext w w0∧b7 w0 r zI (eu (bz (aQ l))) l.length) (fun x=>dl.length-x) 0 Fr.ok ⟨Nat.zero_le _,(fun j d h=>by omega),hE,hM⟩ ?_;intro x w3 hl3;obtain⟨hzm,hin2,hE,hM⟩:=hl3;refine CW.sr fun K15 hK15=>WL.v (Y.lss rfl rfl)<|WL.nil (hK15 _ _ ?_);clear hK15;refine CW.seq fun K16 hK16=>?_;refine bp ?_ ?_<;>intro ht17
  ·refine CW.skip ?_;refine hK16 _ _ ?_;clear hK16;refine CW.seq fun K18 hK18=>?_;refine CW.block<|CW.seq fun K19 hK19=>?_;obtain⟨d,hd⟩:∃d,dl[x]? =some d:=⟨_,List.getElem?_eq_getElem ai⟩;obtain⟨b,rfl,hmb⟩:=hdl.at hd;refine CW.region<|WL.v (Y.af underlying25 rfl rfl aJ ai)<|WL.v (Y.load underlying42 rfl (hmb.ext hE) (aj _) rfl) ?_;refine ck rfl aL aw fun g12 w4 hx4 hg12 hB12=>?_;have hlt12:=hB12.lt;have hz4:=hx4.size;have hE:=hE.ae hx4;refine WL.nil (hK19 _ _ ?_);clear hK19;refine CW.sr fun K20 hK20=>WL.m rfl<|WL.v (Y.load underlying42 rfl hB12.mem (aj _) rfl)<|WL.v (Y.mC iP (fun _=>rfl) underlying71 mU rfl rfl (hM.ext hx4))<|WL.m rfl<|WL.v (Y.extract rfl rfl)<|WL.v (Y.extract rfl rfl)<|WL.a rfl<|WL.a rfl<|WL.nil (hK20 _ _ ?_);clear hK20;refine CW.sr fun K21 hK21=>WL.m rfl<|WL.v (Y.not rfl)<|WL.nil (hK21 _ _ ?_);clear hK21;refine bp ?_ ?_<;>intro ht22
   ·refine CW.sr fun K23 hK23=>WL.a rfl<|WL.a rfl<|WL.nil (hK23 _ _ ?_);clear hK23;refine CW.ret ⟨_,rfl,?_⟩;have hnd:¬d∈bz (aQ l):=fun h=>by
     have h9:=ht22;rw [da]at h9;simp_all
    have he:eh (aQ l) (ds.map Prod.snd).flatten=5:=by
     rw [eh,if_neg (by rw [hok];decide),if_pos ⟨d,List.mem_flatten.2 ⟨dl,List.mem_map.2 ⟨_,List.mem_of_getElem? hy,rfl⟩,List.mem_of_getElem? hd⟩,hnd⟩]
    exact⟨_,by rw [he],hE,fun h=>by rw [he]at h;simp at h⟩
   refine CW.skip ?_;refine hK18 _ _ ?_;clear hK18;refine CW.region<|WL.v (Y.add rfl rfl bB)<|WL.m rfl<|WL.nil ?_;refine⟨x+1,by show dl.length-(x+1)<dl.length-x;omega,Fr.ok,by show x+1≤dl.length;omega,?_,hE,hM.ext hx4⟩;intro j d2 hj h1;by_cases e:j<x
   ·exact hin2 j d2 e h1
   ·have e2:j=x:=by omega
    subst e2;rw [hd]at h1;cases h1
    have h9:=ht22;rw [da]at h9;simpa using h9
  refine CW.exit ?_;refine hK12 _ _ ?_;clear hK12;refine CW.region<|WL.v (Y.add rfl rfl bB)<|WL.m rfl<|WL.nil ?_;refine⟨i+1,by show m1-(i+1)<m1-i;omega,Fr.ok,by show i+1≤m1;omega,?_,hE,hM⟩;intro j y2 d2 hj hy2 hd2;by_cases e:j<i
  ·exact hin j y2 d2 e hy2 hd2
  ·have e2:j=i:=by omega
   subst e2;rw [hy]at hy2;cases hy2
   obtain⟨k,hk⟩:=List.mem_iff_getElem?.1 hd2;have hk:dl[k]? =some d2:=hk;exact hin2 k d2 (by have:=(List.getElem?_eq_some_iff.1 hk).1;omega) hk
 refine CW.exit ?_;refine hK7 _ _ ?_;clear hK7;refine CW.sr fun K24 hK24=>WL.m rfl<|WL.m rfl<|WL.m rfl<|WL.v (Y.aq underlying38 rfl)<|WL.st (St.tw underlying79 hbi hbz hbs hbb rfl rfl ai) aw fun v50 w5 hR5=>?_;obtain⟨sb,rfl,hsb,hBs,hx5⟩:=hR5;have hz5:=hx5.size;have hE:=hE.ae hx5;have hlt5:=hBs.lt;have hltM:=hM.lt;have hM:=hM.ext hx5;refine WL.v (Y.build rfl (yZ _ _ _ _ _ _))<|WL.box rfl rfl aw fun g52 w6 hx6 hg52 hB52=>?_;have hlt52:=hB52.lt;have hz6:=hx6.size;have hE:=hE.ae hx6;refine WL.a rfl<|WL.a rfl<|WL.nil (hK24 _ _ ?_);clear hK24;refine CW.ret ⟨_,rfl,?_⟩;have he:eh (aQ l) (ds.map Prod.snd).flatten=0:=by
  rw [eh,if_neg (by rw [hok];decide),if_neg];rintro⟨d,hdm2,hn⟩;obtain⟨dl,h1,h2⟩:=List.mem_flatten.1 hdm2;obtain⟨y,h3,h4⟩:=List.mem_map.1 h1;obtain⟨j,hj⟩:=List.mem_iff_getElem?.1 h3;exact hn (hin j y d (by have:=(List.getElem?_eq_some_iff.1 hj).1;omega) hj (h4▸h2))
 exact⟨_,by rw [he],hE,fun _=>⟨g52,r,sb,rfl,hl0,hE,⟨by omega,by omega,by omega⟩,⟨by omega,by omega,by omega⟩,hB52,hM.ext hx6,hBs.ext hx6,by simp,hok⟩⟩
end Go.Proofs.YtmehkigmnpjcjaaGreatDoor
namespace Go.Proofs.YtmehkigmnpjcjaaGreatDoor
open Go.RowKit Go.Fw Go.Pl Go.Proofs.Tryz
abbrev JE:TypeId:=25
end Go.Proofs.YtmehkigmnpjcjaaGreatDoor
namespace Go.Pl
open Go.Fw
def cK(S:List Bool)(l:List Nd)(d:aD):Bool:=S[jh l d]?.getD false
end Go.Pl
namespace Go.Proofs.YtmehkigmnpjcjaaGreatDoor
open Go.RowKit Go.Fw Go.Pl Go.Proofs.Tryz
end Go.Proofs.YtmehkigmnpjcjaaGreatDoor
namespace Go.Pl
open Go.Fw
def iZ(l:List Nd)(In:List Bool):Nat→List Bool→List aD→List aD
 |0,_,out=>out
 |i+1,U,out=>match l[i]? with
  |some n=>iZ l In i (if In[i]? =some true∨U[i]? =some true then bP l U n.ps else U) (if In[i]? =some true∧¬U[i]? =some true then out++[n.id]else out)
  |none=>iZ l In i U out
def kU(l:List Nd)(In:List Bool):List aD:=iy (iZ l In l.length (List.replicate l.length false) [])
theorem qB{l:List Nd}{In U:List Bool}{out:List aD}{i:Nat}{n:Nd}(h:l[i]? =some n):iZ l In (i+1) U out=iZ l In i (if In[i]? =some true∨U[i]? =some true then bP l U n.ps else U) (if In[i]? =some true∧¬U[i]? =some true then out++[n.id]else out):=by
 rw [iZ,h]
end Go.Pl
namespace Go.Proofs.YtmehkigmnpjcjaaGreatDoor
open Go.RowKit Go.Fw Go.Pl Go.Sort Go.Proofs.Tryz
set_option maxRecDepth 100000 in
set_option maxHeartbeats 2000000 in
theorem zL(wb w:World)(gk r sb b:Nat)(u:Value)(l:List gj)(S0 In:List Bool)(hK:j7 wb w gk r sb u l S0)(hIn:aK w b oC (b8 In))(hil:In.length=l.length):Calls prog 52 #[.pointer (some ⟨gk,0,none⟩),.slice (some ⟨b,0,none⟩) l.length l.length] w (cB fun v w'=>Own w' pX 32 v (cn (kU (aQ l) In))∧(∀k,v.ownBlock=some k→w.heap.size≤k)∧Ext w w'):=by
 have hK0:=hK;have hIn0:=hIn;obtain⟨A,c,rfl,hmc,hcm⟩:=hK.yk.sl.lens;unfold maxLen at hcm;have hln:=lT hK.ok;have hnl:(aQ l).length=l.length:=by simp
 have hltK:=hK.lt;have hzK:=hK.old.size;obtain⟨bi,hbi,hbz,hbs,hbb⟩:=iS;refine ar 83 [4] [(0,.pointer (some ⟨gk,0,none⟩)),(1,.slice (some ⟨b,0,none⟩) l.length l.length)] func52 rfl rfl rfl aL cz ?_;have hE:Ext w w:=aE.refl;refine CW.sr fun K1 hK1=>WL.a rfl<|WL.nil (hK1 _ _ ?_);clear hK1;refine CW.sr fun K2 hK2=>WL.m rfl<|WL.v (Y.nilCheck rfl)<|WL.v (Y.fieldAddr i7 rfl)<|WL.v (Y.ah underlying38 rfl hK.bY.mem.lO rfl)<|WL.v (Y.aq underlying38 rfl)<|WL.st (St.tw underlying79 hbi hbz hbs hbb rfl rfl ai) aw fun v15 w1 hR1=>?_;obtain⟨ub,rfl,hub,hU,hx1⟩:=hR1;have hz1:=hx1.size;have hE:=hE.ae hx1;have hK:=hK.ext hx1;have hltu:=hU.lt;refine WL.a rfl<|WL.nil (hK2 _ _ ?_);clear hK2;refine CW.sr fun K3 hK3=>WL.a rfl<|WL.nil (hK3 _ _ ?_);clear hK3;refine CW.seq fun K4 hK4=>CW.sr fun K5 hK5=>WL.m rfl<|WL.v (Y.nilCheck rfl)<|WL.v (Y.fieldAddr i7 rfl)<|WL.v (Y.ah underlying38 rfl hK.bY.mem.lO rfl)<|WL.v (Y.aq underlying38 rfl)<|WL.v (Y.sub rfl rfl bB)<|WL.a rfl<|WL.nil (hK5 _ _ ?_);clear hK5;refine CW.block ?_;refine CW.loop (X:=Nat×List Bool×Value×List aD) (fun x=>[(0,.pointer (some ⟨gk,0,none⟩)),(1,.slice (some ⟨b,0,none⟩) l.length l.length),(5,.slice (some ⟨ub,0,none⟩) l.length l.length),(6,x.2.2.1),(7,.int .i64 ((x.1:Int)-1))]) (fun x w0=>x.1≤l.length∧aK w0 ub oC (b8 x.2.1)∧x.2.1.length=l.length∧Own w0 pX 32 x.2.2.1 (cn x.2.2.2)∧(∀k,x.2.2.1.ownBlock=some k→w1.heap.size≤k)∧x.2.2.2.length≤l.length-x.1∧iZ (aQ l) In l.length (List.replicate l.length false) []=iZ (aQ l) In x.1 x.2.1 x.2.2.2∧Ext w w0∧w1.heap.size≤w0.heap.size) (fun x=>x.1) (l.length,List.replicate l.length false,.slice none 0 0,[]) Fr.ok ⟨Nat.le_refl _,hU,by simp,Own.nil,(fun k h=>by simp [Value.ownBlock]at h),Nat.zero_le _,rfl,hE,Nat.le_refl _⟩ ?_;intro x w2 hl2;clear hE hK hU;obtain⟨k,U,v,out⟩:=x;dsimp only at hl2⊢;obtain⟨hkl,hU,hUl,hO,hfu,hol,hh,hE,hz2⟩:=hl2;have hK:=hK0.ext hE;have hIn:=hIn0.ext hE;obtain⟨B,mb,cb,rfl⟩:=hO.lens;have hlo:=hO.lt;refine CW.seq fun K6 hK6=>CW.sr fun K7 hK7=>WL.m rfl<|WL.v (Y.geq rfl rfl)<|WL.nil (hK7 _ _ ?_);clear hK7;refine bp ?_ ?_<;>intro ht8
 ·refine CW.skip ?_;refine hK6 _ _ ?_;clear hK6;obtain⟨i,rfl⟩:∃i,k=i+1:=⟨k-1,by omega⟩;rw [show(((i+1:Nat):Int)-1)=(i:Int)by omega];obtain⟨y,hy⟩:∃y,l[i]? =some y:=⟨_,List.getElem?_eq_getElem ai⟩;obtain⟨⟨id,ps⟩,Ay,cy⟩:=y;have hyn:(aQ l)[i]? =some ⟨id,ps⟩:=by simp [hy]
  obtain⟨ci,hci⟩:∃c,In[i]? =some c:=⟨_,List.getElem?_eq_getElem ai⟩;obtain⟨cu,hcu⟩:∃c,U[i]? =some c:=⟨_,List.getElem?_eq_getElem ai⟩;obtain⟨a,rfl,hma⟩:=hK0.yk.sl.at hy;have hps0:=hK0.yk.ps _ (List.mem_of_getElem? hy);dsimp only [gj.pv]at hps0;have hps1:=hps0;obtain⟨_,_,_,he_,_,hcy,hcy2,_⟩:=hps1;cases he_
  unfold maxLen at hcy2;refine CW.bK (X:=Value) (fun u=>[(0,.pointer (some ⟨gk,0,none⟩)),(1,.slice (some ⟨b,0,none⟩) l.length l.length),(5,.slice (some ⟨ub,0,none⟩) l.length l.length),(6,u),(7,.int .i64 (i:Int))]) (fun u w0=>aK w0 ub oC (b8 (if ci=true∨cu=true then bP (aQ l) U ps else U))∧Own w0 pX 32 u (cn (if ci=true∧¬cu=true then out++[id]else out))∧(∀k,u.ownBlock=some k→w1.heap.size≤k)∧Ext w w0∧w1.heap.size≤w0.heap.size) ?_ ?_
  ·refine CW.block ?_;refine CW.bK (X:=Value) (fun u=>[(0,.pointer (some ⟨gk,0,none⟩)),(1,.slice (some ⟨b,0,none⟩) l.length l.length),(5,.slice (some ⟨ub,0,none⟩) l.length l.length),(6,u),(7,.int .i64 (i:Int))]) (fun u w0=>Own w0 pX 32 u (cn (if ci=true∧¬cu=true then out++[id]else out))∧(∀k,u.ownBlock=some k→w1.heap.size≤k)∧Ext w w0∧aK w0 ub oC (b8 U)∧w1.heap.size≤w0.heap.size) ?_ ?_
   ·refine CW.bS 36 (ci=true∧¬cu=true) ?_ ?_
    ·refine CW.region<|WL.m rfl<|WL.m rfl<|WL.v (Y.af underlying79 rfl rfl cQ ai)<|WL.v (Y.ah underlying4 rfl (hIn.mh hci) rfl)<|WL.m rfl ?_;refine dO ?_ ?_<;>intro hg30
     ·refine WL.g rfl rfl (Y.move rfl)<|WL.g rfl rfl (Y.move rfl)<|WL.g rfl rfl (Y.af underlying79 rfl rfl cQ ai)<|WL.g rfl rfl (Y.ah underlying4 rfl (hU.mh hcu) rfl)<|WL.g rfl rfl (Y.not rfl)<|WL.v (Y.pick rfl rfl)<|WL.nil ⟨⟨_,rfl,?_⟩,rfl,Fr.cT⟩;exact aH
     ·refine WL.o rfl rfl<|WL.o rfl rfl<|WL.o rfl rfl<|WL.o rfl rfl<|WL.o rfl rfl<|WL.v (Y.pick rfl rfl)<|WL.nil ⟨⟨_,rfl,?_⟩,rfl,Fr.cT⟩;exact aH
    refine bp ?_ ?_<;>intro ht11
    ·refine CW.region<|WL.m rfl<|WL.m rfl<|WL.v (Y.nilCheck rfl)<|WL.v (Y.fieldAddr i7 rfl)<|WL.v (Y.ah underlying38 rfl hK.bY.mem.lO rfl)<|WL.m rfl<|WL.v (Y.af underlying38 rfl rfl cc ai)<|WL.v (Y.fieldAddr dX rfl)<|WL.v (Y.load underlying42 rfl (hma.ext hK.old).nC (aj _) rfl)<|WL.st (St.buildSlice rfl (kI _)) aw fun v46 w3 hR3=>?_;obtain⟨g46,rfl,hg46,hB46,hx3⟩:=hR3;have hz3:=hx3.size;have hE:=hE.ae hx3;refine WL.st (St.append underlying25 underlying25 fR rfl rfl (hO.ext hx3) (Src.one hB46 (ag _)) bV (by rw [aO ag];omega)) aw fun v47 w4 hR4=>?_;obtain⟨hO4,hc4,hf4⟩:=hR4;have hz4:=hc4.size;have hE:=hE.step hc4 (fun k h=>by have:=hfu k h;omega);have hf4:∀k,v47.ownBlock=some k→w1.heap.size≤k:=by
      rcases hf4 with h|h
      ·intro k hk;rw [h]at hk;exact hfu k hk
      ·intro k hk;have:=h k hk;omega
     have hU:=(hU.ext hx3).aA hc4 (fun h=>by have:=hfu _ h;omega);refine WL.a rfl<|WL.nil ?_;exact⟨v47,Fr.ok,by rw [if_pos (by assumption)];simpa [cn]using hO4,hf4,hE,hU,by omega⟩
    refine CW.skip ?_;exact⟨.slice B mb cb,Fr.ok,by rw [if_neg (by assumption)];exact hO,hfu,hE,hU,by omega⟩
   rintro u w5 hj5;clear hE hK hU hIn hO hfu;obtain⟨hO,hfu,hE,hU,hz5⟩:=hj5;have hK:=hK0.ext hE;have hIn:=hIn0.ext hE;refine CW.bS 57 (ci=true∨cu=true) ?_ ?_
   ·refine CW.region<|WL.m rfl<|WL.m rfl<|WL.v (Y.af underlying79 rfl rfl cQ ai)<|WL.v (Y.ah underlying4 rfl (hIn.mh hci) rfl)<|WL.m rfl ?_;refine dO ?_ ?_<;>intro hg52
    ·refine WL.o rfl rfl<|WL.o rfl rfl<|WL.o rfl rfl<|WL.o rfl rfl<|WL.v (Y.pick rfl rfl)<|WL.nil ⟨⟨_,rfl,?_⟩,rfl,Fr.cT⟩;exact aH
    ·refine WL.g rfl rfl (Y.move rfl)<|WL.g rfl rfl (Y.move rfl)<|WL.g rfl rfl (Y.af underlying79 rfl rfl cQ ai)<|WL.g rfl rfl (Y.ah underlying4 rfl (hU.mh hcu) rfl)<|WL.v (Y.pick rfl rfl)<|WL.nil ⟨⟨_,rfl,?_⟩,rfl,Fr.cT⟩;exact aH
   refine bp ?_ ?_<;>intro ht12
   ·refine CW.sr fun K13 hK13=>WL.m rfl<|WL.v (Y.nilCheck rfl)<|WL.v (Y.fieldAddr i7 rfl)<|WL.v (Y.ah underlying38 rfl hK.bY.mem.lO rfl)<|WL.m rfl<|WL.v (Y.af underlying38 rfl rfl cc ai)<|WL.v (Y.fieldAddr dW rfl)<|WL.v (Y.ah underlying25 rfl (hma.ext hK.old).node1 rfl)<|WL.v (Y.aq underlying25 rfl)<|WL.m rfl<|WL.nil (hK13 _ _ ?_);clear hK13;refine CW.block ?_;refine CW.loop (X:=Nat) (fun x=>[(0,.pointer (some ⟨gk,0,none⟩)),(1,.slice (some ⟨b,0,none⟩) l.length l.length),(5,.slice (some ⟨ub,0,none⟩) l.length l.length),(6,u),(7,.int .i64 (i:Int)),(65,.slice Ay ps.length cy),(66,.int .i64 (ps.length:Int)),(67,.int .i64 (x:Int))]) (fun x w0=>x≤ps.length∧aK w0 ub oC (b8 (bP (aQ l) U (ps.take x)))∧Own w0 pX 32 u (cn (if ci=true∧¬cu=true then out++[id]else out))∧Ext w w0∧w5.heap.size≤w0.heap.size) (fun x=>ps.length-x) 0 Fr.ok ⟨Nat.zero_le _,by simpa [bP]using hU,hO,hE,Nat.le_refl _⟩ ?_;intro x w6 hl6;clear hE hK hU hO;obtain⟨hxp,hU,hO,hE,hz6⟩:=hl6;have hK:=hK0.ext hE;refine CW.sr fun K14 hK14=>WL.v (Y.lss rfl rfl)<|WL.nil (hK14 _ _ ?_);clear hK14;refine CW.seq fun K15 hK15=>?_;refine bp ?_ ?_<;>intro ht16
    ·refine CW.skip ?_;refine hK15 _ _ ?_;clear hK15;refine CW.seq fun K17 hK17=>?_;refine CW.block<|CW.seq fun K18 hK18=>?_;obtain⟨d,hd⟩:∃d,ps[x]? =some d:=⟨_,List.getElem?_eq_getElem ai⟩;obtain⟨a2,rfl,hma2⟩:=hps0.at hd;have hdi:=qU (Ad hK0.ok hyn (List.mem_of_getElem? hd));have hix:=ic hdi;rw [hnl]at hix;obtain⟨jf,hf⟩:=mZ hdi;obtain⟨cb2,hcb2⟩:∃cb,(bP (aQ l) U (ps.take x))[jh (aQ l) d]? =some cb:=⟨_,List.getElem?_eq_getElem (by rw [cE];omega)⟩;refine CW.region<|WL.v (Y.af underlying25 rfl rfl aJ ai)<|WL.v (Y.load underlying42 rfl (hma2.ext hK.old) (aj _) rfl) ?_;refine ck rfl aL aw fun g9 w7 hx7 hg9 hB9=>?_;have hlt9:=hB9.lt;have hz7:=hx7.size;have hE:=hE.ae hx7;have hK:=hK.ext hx7;refine WL.nil (hK18 _ _ ?_);clear hK18;refine CW.head 8 aG aG fun w8 hx8=>?_;skip;have hz8:=hx8.size;have hE:=hE.ae hx8;have hK:=hK.ext hx8;have hB9:=hB9.ext hx8;refine HL.val (Y.move rfl) aw<|HL.val (Y.move rfl) aw<|HL.val (Y.nilCheck rfl) aw<|HL.val (Y.fieldAddr nB rfl) aw<|HL.val (Y.ah underlying71 rfl hK.bY.mem.sz rfl) aw<|HL.val (Y.load underlying42 rfl hB9.mem (aj _) rfl) aw<|HL.val (Y.o9 iP (fun _=>rfl) underlying71 rfl rfl hK.map hf rfl) aw<|HL.val (Y.af underlying79 rfl rfl cQ ai) aw<|HL.nil<|WL.lU rfl rfl rfl eO ((hU.ext hx7).ext hx8) hcb2 (fun w9 hc9 hB9_=>?_);have hz9:=hc9.size;have hE:=hE.step hc9 (fun k h=>by omega);have hK:=hK.aA hc9 cq cq cq (fun k h=>by omega);have hB9:=hB9.aA hc9 cq;have hU:=hB9_;have hO:=((hO.ext hx7).ext hx8).aA hc9 (fun k hk h=>by have:=hfu k hk;omega);refine WL.nil (hK17 _ _ ?_);clear hK17;refine CW.region<|WL.v (Y.add rfl rfl bB)<|WL.m rfl<|WL.nil ?_;refine⟨x+1,by show ps.length-(x+1)<ps.length-x;omega,Fr.ok,by show x+1≤ps.length;omega,?_,hO,hE,by omega⟩;show aK _ _ _ (b8 (bP _ _ (ps.take (x+1))));rw [take_succ hd,iN];exact hU
    refine CW.exit ?_;exact⟨u,Fr.ok,by rw [if_pos (by assumption)];rw [List.take_of_length_le ai]at hU;exact hU,hO,hfu,hE,by omega⟩
   refine CW.skip ?_;exact⟨u,Fr.ok,by rw [if_neg (by assumption)];exact hU,hO,hfu,hE,by omega⟩
  rintro u w10 hj10;clear hE hK hU hO hfu;obtain⟨hU,hO,hfu,hE,hz10⟩:=hj10;refine CW.region<|WL.m rfl<|WL.v (Y.sub rfl rfl bB)<|WL.a rfl<|WL.nil ?_;refine⟨(i,(if ci=true∨cu=true then bP (aQ l) U ps else U),u,(if ci=true∧¬cu=true then out++[id]else out)),by show i<i+1;omega,Fr.ok,by show i≤_;omega,hU,?_,hO,hfu,?_,?_,hE,by omega⟩
  ·show(ite _ _ _:List Bool).length=_;split<;>simp [cE,hUl]
  ·show(ite _ _ _:List aD).length≤l.length-i;split<;>(try simp only [List.length_append,List.length_singleton])<;>omega
  ·show _=iZ (aQ l) In i _ _;rw [hh,qB hyn];simp only [hci,hcu,Option.some.injEq]
 refine CW.exit ?_;refine hK4 _ _ ?_;clear hK4;refine CW.sr fun K19 hK19=>WL.m rfl<|WL.call func79 rfl rfl rfl (EP HA Hw func80 rfl rfl zn _ _ _ _ _ hO ai) aL ?_;rintro v81 w11 hR11;obtain⟨rfl,hO11,hc11⟩:=hR11;have hz11:=hc11.size;have hE:=hE.step hc11 (fun k h=>by have:=hfu k h;omega);refine WL.nil (hK19 _ _ ?_);clear hK19;refine CW.sr fun K20 hK20=>WL.m rfl<|WL.a rfl<|WL.nil (hK20 _ _ ?_);clear hK20;refine CW.ret ⟨_,rfl,?_⟩;refine⟨?_,fun k hk=>by have:=hfu k hk;omega,hE⟩;have hk0:k=0:=by omega
 subst hk0;rw [kU,hnl,hh];exact hO11
end Go.Proofs.YtmehkigmnpjcjaaGreatDoor
