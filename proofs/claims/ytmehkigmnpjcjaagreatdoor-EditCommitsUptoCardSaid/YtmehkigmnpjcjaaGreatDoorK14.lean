/- Parts of a proof: what its last text leans on. No condition. -/
import Derived.Test.YtmehkigmnpjcjaaGreatDoorK07
import Derived.Test.YtmehkigmnpjcjaaGreatDoorK13
set_option linter.unusedSimpArgs false
set_option linter.unusedVariables false
namespace Go.Fu
open Go.Fw Go.Pl
def res(id:aD)(r:aF):aF:=if r.own=true then⟨false,id,r.n⟩else r
def fF(ops:List ct):Nat:=ops.countP fun x=>decide (x.kind=1)
noncomputable def dB(e:List El)(ops:List ct)(i:Nat)(x:ct):Int:=if dn ops ((i:Int)+1)≠0 then dn ops ((i:Int)+1)else if bj x.at_=2∧kX e x.at_=none then 5 else 0
noncomputable def cY(e:List El)(ops:List ct):Nat→Int
 |0=>0
 |k+1=>if cY e ops k≠0 then cY e ops k else match ops[k]? with
  |some x=>dB e ops k x
  |none=>0
structure Tr where
 ad:List aD
 e:List El
def Tr.new:Tr:=⟨[],[El.root]⟩
noncomputable def di(T:Tr)(id:aD)(ops:List ct):Int:=if id∈T.ad then 6 else if 2000<ops.length∨400000<fF ops+(T.e.length-1)then 4 else cY T.e ops ops.length
noncomputable def tE(id:aD)(e:List El)(k:Nat)(x:ct):List El:=match kX e (res id x.at_)with
 |none=>e
 |some a=>if x.kind=2 then hF e a else cZ e a x.left ⟨false,id,(k:Int)+1⟩ x.byte
noncomputable def jm(id:aD)(ops:List ct)(e:List El):Nat→List El
 |0=>e
 |k+1=>match ops[k]? with
  |some x=>tE id (jm id ops e k) k x
  |none=>jm id ops e k
noncomputable def iJ(T:Tr)(id:aD)(ops:List ct):Tr:=if di T id ops=0 then⟨T.ad++[id],jm id ops T.e ops.length⟩else T
theorem mE{e:List El}{ops:List ct}{k:Nat}(h:cY e ops k≠0):∀m,cY e ops (k+m)=cY e ops k
 |0=>rfl
 |m+1=>by
  have ih:=mE h m;rw [←Nat.add_assoc,cY,if_pos (by rw [ih];exact h),ih]
theorem qH{e:List El}{ops:List ct}{k m:Nat}(h:cY e ops (k+m)=0):cY e ops k=0:=by
 by_cases h0:cY e ops k=0
 ·exact h0
 ·rw [mE h0]at h;exact h
theorem lG{e:List El}{ops:List ct}{k:Nat}{x:ct}(hx:ops[k]? =some x)(h:cY e ops k=0):cY e ops (k+1)=dB e ops k x:=by
 rw [cY,if_neg ai,hx]
theorem lS{e:List El}{ops:List ct}{k:Nat}{x:ct}(hx:ops[k]? =some x)(h:cY e ops k=0)(hw:dB e ops k x≠0):cY e ops ops.length=dB e ops k x:=by
 have hk:=(List.getElem?_eq_some_iff.1 hx).1;have h1:=lG hx h;rw [show ops.length=(k+1)+(ops.length-(k+1))by omega,mE (by rw [h1];exact hw),h1]
theorem nc{id:aD}{ops:List ct}{e:List El}{k:Nat}{x:ct}(hx:ops[k]? =some x):jm id ops e (k+1)=tE id (jm id ops e k) k x:=by rw [jm,hx]
structure F4(ops:List ct)(k:Nat)(x:ct):Prop where
 ref:fK x.at_=true
 kind:(x.kind=1∧(x.left=true→x.at_≠aF.zero))∨(x.kind=2∧x.at_≠aF.zero∧x.left=false)
 own:x.at_.own=true→1≤x.at_.n∧x.at_.n≤(k:Int)∧ep ops (x.at_.n-1).toNat=1
theorem j2{ops:List ct}{k:Nat}{x:ct}(hx:ops[k]? =some x)(h:dn ops ((k:Int)+1)=0):F4 ops k x:=by
 have hk:=(List.getElem?_eq_some_iff.1 hx).1;rw [dn,if_neg ai,show(((k:Int)+1)-1).toNat=k by omega,hx]at h;simp only [eR,cM,decide_eq_true_eq]at h;by_cases h1:fK x.at_=false
 ·rw [if_pos h1]at h;omega
 rw [if_neg h1]at h;by_cases h2:x.kind=1∧(x.left=true∧x.at_=aF.zero)
 ·rw [if_pos h2]at h;omega
 rw [if_neg h2]at h;by_cases h3:x.kind=2∧(x.left=true∨(x.byte.toNat:Int)≠0∨x.at_=aF.zero)
 ·rw [if_pos h3]at h;omega
 rw [if_neg h3]at h;by_cases h4:x.kind≠1∧x.kind≠2
 ·rw [if_pos h4]at h;omega
 rw [if_neg h4]at h;by_cases h5:x.at_.own=true∧((k:Int)+1≤x.at_.n∨ep ops (x.at_.n-1).toNat≠1)
 ·rw [if_pos h5]at h;omega
 have hr:fK x.at_=true:=by simpa using h1
 refine⟨hr,?_,fun ho=>?_⟩
 ·by_cases hk1:x.kind=1
  ·exact .inl ⟨hk1,fun hl hz=>h2 ⟨hk1,hl,hz⟩⟩
  ·have hk2:x.kind=2:=by
    by_cases hk2:x.kind=2
    ·exact hk2
    ·exact absurd ⟨hk1,hk2⟩ h4
   refine .inr ⟨hk2,fun hz=>h3 ⟨hk2,.inr (.inr hz)⟩,?_⟩;cases hl:x.left with
   |false=>rfl
   |true=>exact absurd ⟨hk2,.inl hl⟩ h3
 ·have h6:¬((k:Int)+1≤x.at_.n):=fun h6=>h5 ⟨ho,.inl h6⟩;have h7:ep ops (x.at_.n-1).toNat=1:=Decidable.not_not.1 fun h7=>h5 ⟨ho,.inr h7⟩;rw [fK,ho]at hr;simp at hr;exact⟨by omega,by omega,h7⟩
abbrev kR:=List (aD×List ct)
def fj(L:kR)(r:aF)(b:UInt8)(p:aF)(s:Bool):Prop:=∃(id:aD) (ops:List ct) (k:Nat) (x:ct),(id,ops)∈L∧ops[k]? =some x∧x.kind=1∧r=⟨false,id,(k:Int)+1⟩∧b=x.byte∧p=res id x.at_∧s=x.left
def iL(L:kR)(r:aF):Prop:=∃(id:aD) (ops:List ct) (k:Nat) (x:ct),(id,ops)∈L∧ops[k]? =some x∧x.kind=2∧r=res id x.at_
section
variable {L:kR} {id:aD} {ops:List ct} {k:Nat} {x:ct}
theorem ll{α:Type}{l:List α}{k j:Nat}{x y:α}(hx:l[k]? =some x):(l.take (k+1))[j]? =some y↔(l.take k)[j]? =some y∨(j=k∧y=x):=by
 rw [List.getElem?_take,List.getElem?_take];by_cases h1:j<k
 ·rw [if_pos h1,if_pos ai];constructor
  ·exact .inl
  ·rintro(h|⟨rfl,_⟩)
   ·exact h
   ·omega
 ·rw [if_neg h1];by_cases h2:j=k
  ·subst h2;rw [if_pos ai,hx];simp [eq_comm]
  ·rw [if_neg ai];simp [h2]
theorem xM(hx:ops[k]? =some x){r:aF}{b:UInt8}{p:aF}{s:Bool}:fj (L++[(id,ops.take (k+1))]) r b p s↔fj (L++[(id,ops.take k)]) r b p s∨(x.kind=1∧r=⟨false,id,(k:Int)+1⟩∧b=x.byte∧p=res id x.at_∧s=x.left):=by
 constructor
 ·rintro⟨id',ops',j,y,hm,hy,h⟩;rcases List.mem_append.1 hm with hm|hm
  ·exact .inl ⟨id',ops',j,y,by simp [hm],hy,h⟩
  ·simp at hm;obtain⟨rfl,rfl⟩:=hm;rcases(ll hx).1 hy with hy|⟨rfl,rfl⟩
   ·exact .inl ⟨id',_,j,y,by simp,hy,h⟩
   ·exact .inr h
 ·rintro(⟨id',ops',j,y,hm,hy,h⟩|h)
  ·rcases List.mem_append.1 hm with hm|hm
   ·exact⟨id',ops',j,y,by simp [hm],hy,h⟩
   ·simp at hm;obtain⟨rfl,rfl⟩:=hm;exact⟨id',_,j,y,by simp,(ll hx).2 (.inl hy),h⟩
  ·exact⟨id,_,k,x,by simp,(ll hx).2 (.inr ⟨rfl,rfl⟩),h⟩
theorem ye(hx:ops[k]? =some x){r:aF}:iL (L++[(id,ops.take (k+1))]) r↔iL (L++[(id,ops.take k)]) r∨(x.kind=2∧r=res id x.at_):=by
 constructor
 ·rintro⟨id',ops',j,y,hm,hy,h⟩;rcases List.mem_append.1 hm with hm|hm
  ·exact .inl ⟨id',ops',j,y,by simp [hm],hy,h⟩
  ·simp at hm;obtain⟨rfl,rfl⟩:=hm;rcases(ll hx).1 hy with hy|⟨rfl,rfl⟩
   ·exact .inl ⟨id',_,j,y,by simp,hy,h⟩
   ·exact .inr h
 ·rintro(⟨id',ops',j,y,hm,hy,h⟩|h)
  ·rcases List.mem_append.1 hm with hm|hm
   ·exact⟨id',ops',j,y,by simp [hm],hy,h⟩
   ·simp at hm;obtain⟨rfl,rfl⟩:=hm;exact⟨id',_,j,y,by simp,(ll hx).2 (.inl hy),h⟩
  ·exact⟨id,_,k,x,by simp,(ll hx).2 (.inr ⟨rfl,rfl⟩),h⟩
theorem Gw{r:aF}{b:UInt8}{p:aF}{s:Bool}:fj (L++[(id,[])]) r b p s↔fj L r b p s:=by
 constructor
 ·rintro⟨id',ops',j,y,hm,hy,h⟩;rcases List.mem_append.1 hm with hm|hm
  ·exact⟨id',ops',j,y,hm,hy,h⟩
  ·simp at hm;obtain⟨rfl,rfl⟩:=hm;simp at hy
 ·rintro⟨id',ops',j,y,hm,hy,h⟩;exact⟨id',ops',j,y,by simp [hm],hy,h⟩
theorem FL{r:aF}:iL (L++[(id,[])]) r↔iL L r:=by
 constructor
 ·rintro⟨id',ops',j,y,hm,hy,h⟩;rcases List.mem_append.1 hm with hm|hm
  ·exact⟨id',ops',j,y,hm,hy,h⟩
  ·simp at hm;obtain⟨rfl,rfl⟩:=hm;simp at hy
 ·rintro⟨id',ops',j,y,hm,hy,h⟩;exact⟨id',ops',j,y,by simp [hm],hy,h⟩
theorem yW(hn:(L.map (·.1)).Nodup){r:aF}{b b':UInt8}{p p':aF}{s s':Bool}(h:fj L r b p s)(h':fj L r b' p' s'):b=b'∧p=p'∧s=s':=by
 obtain⟨id,ops,k,x,hm,hx,_,hr,rfl,rfl,rfl⟩:=h;obtain⟨id',ops',k',x',hm',hx',_,hr',rfl,rfl,rfl⟩:=h';rw [hr]at hr';injection hr' with _ h1 h2
 have hk:k=k':=by omega
 subst h1;subst hk;obtain⟨i,hi⟩:=List.mem_iff_getElem?.1 hm;obtain⟨j,hj⟩:=List.mem_iff_getElem?.1 hm';have h1:(L.map (·.1))[i]? =some id:=by simp [hi]
 have h2:(L.map (·.1))[j]? =some id:=by simp [hj]
 have hij:=(List.getElem?_inj (by simpa using(List.getElem?_eq_some_iff.1 hi).1) hn).1 (h1.trans h2.symm);subst hij;rw [hi]at hj;injection hj with hj;injection hj with _ hj;subst hj
 rw [hx]at hx';injection hx' with hx';subst hx'
 exact⟨rfl,rfl,rfl⟩
end
structure gZ(L:kR)(e:List El):Prop where
 names:∀r,(∃x∈e,x.name=r)↔r=aF.zero∨∃b p s,fj L r b p s
 byte:∀(i:Nat) (x:El),0<i→e[i]? =some x→∃p s,fj L x.name x.byte p s
 gone:∀x∈e,x.gone=true↔x.name=aF.zero∨iL L x.name
 left:∀x∈e,∀r,r∈qN e x.left↔∃b,fj L r b x.name true
 right:∀x∈e,∀r,r∈qN e x.right↔∃b,fj L r b x.name false
 par:∀r b p s,fj L r b p s→∃x∈e,x.name=p
 dpar:∀r,iL L r→∃x∈e,x.name=r
theorem zG:gZ [] [El.root] where
 names r:=by
  constructor
  ·rintro⟨x,hx,rfl⟩;simp at hx;subst hx;exact .inl rfl
  ·rintro(rfl|⟨b,p,s,id,ops,k,x,hm,_⟩)
   ·exact⟨El.root,by simp,rfl⟩
   ·cases hm
 byte i x hi hx:=by
  cases i with
  |zero=>omega
  |succ i=>simp at hx
 gone x hx:=by simp at hx;subst hx;exact⟨fun _=>.inl rfl,fun _=>rfl⟩
 left x hx r:=by
  simp at hx;subst hx;constructor
  ·intro h;simp [El.root]at h
  ·rintro⟨b,id,ops,k,x,hm,_⟩;cases hm
 right x hx r:=by
  simp at hx;subst hx;constructor
  ·intro h;simp [El.root]at h
  ·rintro⟨b,id,ops,k,x,hm,_⟩;cases hm
 par r b p s:=by rintro⟨id,ops,k,x,hm,_⟩;cases hm
 dpar r:=by rintro⟨id,ops,k,x,hm,_⟩;cases hm
section
variable {L L':kR} {e:List El}
theorem gZ.congr(h:gZ L e)(hi:∀r b p s,fj L' r b p s↔fj L r b p s)(hd:∀r,iL L' r↔iL L r):gZ L' e where
 names r:=by rw [h.names];simp only [hi]
 byte i x h0 hx:=by simp only [hi];exact h.byte i x h0 hx
 gone x hx:=by rw [h.gone x hx,hd]
 left x hx r:=by rw [h.left x hx];simp only [hi]
 right x hx r:=by rw [h.right x hx];simp only [hi]
 par r b p s hh:=h.par r b p s ((hi r b p s).1 hh)
 dpar r hh:=h.dpar r ((hd r).1 hh)
theorem gZ.start(h:gZ L e)(id:aD)(ops:List ct):gZ (L++[(id,ops.take 0)]) e:=h.congr (fun _ _ _ _=>Gw) (fun _=>FL)
theorem gZ.del(hb:gZ L e)(g:Good e){a:Nat}{z:El}(hz:e[a]? =some z)(hi:∀r b p s,fj L' r b p s↔fj L r b p s)(hd:∀r,iL L' r↔iL L r∨r=z.name):gZ L' (hF e a):=by
 have hmem:∀y,y∈hF e a↔∃i x,e[i]? =some x∧y=if i=a then{x with gone:=true}else x:=fun y=>by
  rw [List.mem_iff_getElem?];constructor
  ·rintro⟨i,hy⟩;rw [gR]at hy;obtain⟨x,hx,rfl⟩:=Option.map_eq_some_iff.1 hy;exact⟨i,x,hx,rfl⟩
  ·rintro⟨i,x,hx,rfl⟩;exact⟨i,by rw [gR,hx];rfl⟩
 have hnm:∀(i:Nat) (x:El),(if i=a then{x with gone:=true}else x).name=x.name:=fun i x=>by split<;>rfl
 have hf:nm (hF e a)=nm e:=funext fun i=>AD;have hold:∀p,(∃x∈e,x.name=p)→∃x∈hF e a,x.name=p:=by
  rintro p ⟨x,hx,rfl⟩;obtain⟨i,hx⟩:=List.mem_iff_getElem?.1 hx;exact⟨_,(hmem _).2 ⟨i,x,hx,rfl⟩,hnm i x⟩
 refine⟨fun r=>?_,fun i y h0 hy=>?_,fun y hy=>?_,fun y hy r=>?_,fun y hy r=>?_,fun r b p s hh=>hold _ (hb.par r b p s ((hi r b p s).1 hh)),fun r hh=>?_⟩
 ·simp only [hi,←hb.names];constructor
  ·rintro⟨y,hy,rfl⟩;obtain⟨i,x,hx,rfl⟩:=(hmem y).1 hy;exact⟨x,List.mem_of_getElem? hx,(hnm i x).symm⟩
  ·rintro⟨x,hx,rfl⟩;obtain⟨i,hx⟩:=List.mem_iff_getElem?.1 hx;exact⟨_,(hmem _).2 ⟨i,x,hx,rfl⟩,hnm i x⟩
 ·rw [gR]at hy;obtain⟨x,hx,rfl⟩:=Option.map_eq_some_iff.1 hy;simp only [hi];have:=hb.byte i x h0 hx;split<;>exact this
 ·obtain⟨i,x,hx,rfl⟩:=(hmem y).1 hy;have h1:=hb.gone x (List.mem_of_getElem? hx);rw [hnm,hd];by_cases h:i=a
  ·subst h;rw [hx]at hz;injection hz with hz;subst hz
   simp
  ·rw [if_neg h,h1];have:x.name≠z.name:=fun hn=>h (g.inj hx hz hn);simp [this]
 ·obtain⟨i,x,hx,rfl⟩:=(hmem y).1 hy;have h1:=hb.left x (List.mem_of_getElem? hx) r;rw [qN,hf,hnm];simp only [hi];split<;>exact h1
 ·obtain⟨i,x,hx,rfl⟩:=(hmem y).1 hy;have h1:=hb.right x (List.mem_of_getElem? hx) r;rw [qN,hf,hnm];simp only [hi];split<;>exact h1
 ·rcases(hd r).1 hh with h|rfl
  ·exact hold _ (hb.dpar r h)
  ·exact hold _ ⟨z,List.mem_of_getElem? hz,rfl⟩
theorem gZ.ins(hb:gZ L e)(g:Good e){a:Nat}{z:El}(hz:e[a]? =some z){r0:aF}{b0:UInt8}{s0:Bool}(hr:kX e r0=none)
  (hi:∀r b p s,fj L' r b p s↔fj L r b p s∨(r=r0∧b=b0∧p=z.name∧s=s0)) (hd:∀r,iL L' r↔iL L r) (h0:r0≠aF.zero):gZ L' (cZ e a s0 r0 b0):=by
 have ha:=(List.getElem?_eq_some_iff.1 hz).1;have hr':=iz.1 hr;have hdn:¬iL L r0:=fun h=>by obtain⟨x,hx,hn⟩:=hb.dpar r0 h;exact hr' x hx hn
 have hmem:∀y,y∈cZ e a s0 r0 b0↔y=⟨r0,b0,false,[],[]⟩∨∃i x,e[i]? =some x∧y=if i=a then x.more e s0 r0 else x:=fun y=>by
  rw [List.mem_iff_getElem?];constructor
  ·rintro⟨i,hy⟩;rcases mH ha hy with⟨_,h⟩|⟨x,hx,h⟩
   ·exact .inl h
   ·exact .inr ⟨i,x,hx,h⟩
  ·rintro(rfl|⟨i,x,hx,rfl⟩)
   ·exact⟨_,j9 ha⟩
   ·exact⟨i,gM hx⟩
 have hmn:∀x:El,(x.more e s0 r0).name=x.name∧(x.more e s0 r0).byte=x.byte∧(x.more e s0 r0).gone=x.gone:=fun x=>by unfold El.more;split<;>exact⟨rfl,rfl,rfl⟩
 have hnm:∀(i:Nat) (x:El),(if i=a then x.more e s0 r0 else x).name=x.name:=fun i x=>by split<;>first|exact(hmn x).1|rfl
 have hold:∀p,(∃x∈e,x.name=p)→∃x∈cZ e a s0 r0 b0,x.name=p:=by
  rintro p ⟨x,hx,rfl⟩;obtain⟨i,hx⟩:=List.mem_iff_getElem?.1 hx;exact⟨_,(hmem _).2 (.inr ⟨i,x,hx,rfl⟩),hnm i x⟩
 have hf:∀l:List Nat,(∀c∈l,c<e.length)→qN (cZ e a s0 r0 b0) l=qN e l:=fun l hl=>List.map_congr_left fun c hc=>by rw [nu ha,if_neg (by have:=hl c hc;omega)]
 have hk:∀l:List Nat,(∀c∈l,c<e.length)→∀r,r∈qN (cZ e a s0 r0 b0) (tX e r0 l)↔r∈qN e l∨r=r0:=fun l hl r=>by
  rw [←hf l hl];simp only [List.mem_map,tX,tD];constructor
  ·rintro⟨c,rfl|hc,rfl⟩
   ·rw [nu ha,if_pos rfl];exact .inr rfl
   ·exact .inl ⟨c,hc,rfl⟩
  ·rintro(⟨c,hc,rfl⟩|rfl)
   ·exact⟨c,.inr hc,rfl⟩
   ·exact⟨e.length,.inl rfl,by rw [nu ha,if_pos rfl]⟩
 have hkids:∀(sd:Bool) (side:El→List Nat),(side=if sd=true then El.left else El.right)→(∀x∈e,∀r,r∈qN e (side x)↔∃b,fj L r b x.name sd)→∀y∈cZ e a s0 r0 b0,∀r,r∈qN (cZ e a s0 r0 b0) (side y)↔∃b,fj L' r b y.name sd:=by
  intro sd side hsd hold y hy r;simp only [hi];rcases(hmem y).1 hy with rfl|⟨i,x,hx,rfl⟩
  ·have h1:side ⟨r0,b0,false,[],[]⟩=[]:=by rw [hsd];split<;>rfl
   rw [h1];simp only [List.map_nil,List.not_mem_nil,false_iff];rintro⟨b,h|⟨_,_,h,_⟩⟩
   ·obtain⟨w,hw,hn⟩:=hb.par _ _ _ _ h;exact hr' w hw hn
   ·exact hr' z (List.mem_of_getElem? hz) h.symm
  ·have hxm:=List.mem_of_getElem? hx;have h1:=hold x hxm r;have hd':=g.down i x hx;have hl:∀c∈side x,c<e.length:=fun c hc=>by
    rw [hsd]at hc;split at hc
    ·exact(hd' c (.inl hc)).2
    ·exact(hd' c (.inr hc)).2
   rw [hnm];by_cases hia:i=a
   ·subst hia;rw [hx]at hz;injection hz with hz;subst hz
    rw [if_pos rfl];by_cases hs:s0=sd
    ·have h2:side (x.more e s0 r0)=tX e r0 (side x):=by
      rw [hsd];unfold El.more;cases sd<;>simp [hs]
     rw [h2,hk _ hl,h1];constructor
     ·rintro(⟨b,h⟩|rfl)
      ·exact⟨b,.inl h⟩
      ·exact⟨b0,.inr ⟨rfl,rfl,rfl,hs.symm⟩⟩
     ·rintro⟨b,h|⟨rfl,_⟩⟩
      ·exact .inl ⟨b,h⟩
      ·exact .inr rfl
    ·have h2:side (x.more e s0 r0)=side x:=by
      rw [hsd];unfold El.more;cases sd<;>cases s0<;>first|rfl|exact absurd rfl hs
     rw [h2,hf _ hl,h1];constructor
     ·rintro⟨b,h⟩;exact⟨b,.inl h⟩
     ·rintro⟨b,h|⟨_,_,_,h⟩⟩
      ·exact⟨b,h⟩
      ·exact absurd h.symm hs
   ·rw [if_neg hia,hf _ hl,h1];constructor
    ·rintro⟨b,h⟩;exact⟨b,.inl h⟩
    ·rintro⟨b,h|⟨_,_,h,_⟩⟩
     ·exact⟨b,h⟩
     ·exact absurd (g.inj hx hz h) hia
 refine⟨fun r=>?_,fun i y hi0 hy=>?_,fun y hy=>?_,hkids true El.left rfl hb.left,hkids false El.right rfl hb.right,fun r b p s hh=>?_,fun r hh=>?_⟩
 ·simp only [hi];constructor
  ·rintro⟨y,hy,rfl⟩;rcases(hmem y).1 hy with rfl|⟨i,x,hx,rfl⟩
   ·exact .inr ⟨b0,z.name,s0,.inr ⟨rfl,rfl,rfl,rfl⟩⟩
   ·rw [hnm];rcases(hb.names x.name).1 ⟨x,List.mem_of_getElem? hx,rfl⟩with h|⟨b,p,s,h⟩
    ·exact .inl h
    ·exact .inr ⟨b,p,s,.inl h⟩
  ·rintro(rfl|⟨b,p,s,h|⟨rfl,_⟩⟩)
   ·obtain⟨x,hx,hn⟩:=(hb.names aF.zero).2 (.inl rfl);obtain⟨i,hx⟩:=List.mem_iff_getElem?.1 hx;exact⟨_,(hmem _).2 (.inr ⟨i,x,hx,rfl⟩),(hnm i x).trans hn⟩
   ·obtain⟨x,hx,hn⟩:=(hb.names r).2 (.inr ⟨b,p,s,h⟩);obtain⟨i,hx⟩:=List.mem_iff_getElem?.1 hx;exact⟨_,(hmem _).2 (.inr ⟨i,x,hx,rfl⟩),(hnm i x).trans hn⟩
   ·exact⟨_,(hmem _).2 (.inl rfl),rfl⟩
 ·simp only [hi];rcases mH ha hy with⟨_,rfl⟩|⟨x,hx,rfl⟩
  ·exact⟨z.name,s0,.inr ⟨rfl,rfl,rfl,rfl⟩⟩
  ·obtain⟨p,s,h⟩:=hb.byte i x hi0 hx;refine⟨p,s,.inl ?_⟩;split
   ·rw [(hmn x).1,(hmn x).2.1];exact h
   ·exact h
 ·rw [hd];rcases(hmem y).1 hy with rfl|⟨i,x,hx,rfl⟩
  ·simp [h0,hdn]
  ·have h1:=hb.gone x (List.mem_of_getElem? hx);rw [hnm,←h1];split
   ·rw [(hmn x).2.2]
   ·rfl
 ·rcases(hi r b p s).1 hh with h|⟨_,_,rfl,_⟩
  ·exact hold _ (hb.par r b p s h)
  ·exact hold _ ⟨z,List.mem_of_getElem? hz,rfl⟩
 ·exact hold _ (hb.dpar r ((hd r).1 hh))
end
end Go.Fu
namespace Go.Fu
open Go.Fw Go.Pl
theorem eB{e:List El}{ops:List ct}{k:Nat}{x:ct}(h:dB e ops k x=0):dn ops ((k:Int)+1)=0∧(bj x.at_=2→∃a,kX e x.at_=some a):=by
 unfold dB at h;by_cases h1:dn ops ((k:Int)+1)≠0
 ·rw [if_pos h1]at h;exact absurd h h1
 ·rw [if_neg h1]at h;refine⟨Decidable.not_not.1 h1,fun h2=>?_⟩;cases h3:kX e x.at_ with
  |some a=>exact⟨a,rfl⟩
  |none=>rw [if_pos ⟨h2,h3⟩]at h;omega
theorem gh{e:List El}{ops:List ct}(h:cY e ops ops.length=0){k:Nat}{x:ct}(hx:ops[k]? =some x):dB e ops k x=0:=by
 have hk:=(List.getElem?_eq_some_iff.1 hx).1;have h1:cY e ops (k+1)=0:=qH (m:=ops.length-(k+1)) (by rw [show k+1+(ops.length-(k+1))=ops.length by omega];exact h);have h0:cY e ops k=0:=qH (m:=1) h1;rw [lG hx h0]at h1;exact h1
theorem kK{T:Tr}{id:aD}{ops:List ct}(h:di T id ops=0):id∉T.ad∧ops.length≤2000∧fF ops+(T.e.length-1)≤400000∧cY T.e ops ops.length=0:=by
 unfold di at h;by_cases h1:id∈T.ad
 ·rw [if_pos h1]at h;omega
 ·rw [if_neg h1]at h;by_cases h2:2000<ops.length∨400000<fF ops+(T.e.length-1)
  ·rw [if_pos h2]at h;omega
  ·rw [if_neg h2]at h;exact⟨h1,by omega,by omega,h⟩
theorem nh{r:aF}(h:fK r=true)(ho:r.own=false):r=aF.zero∨(bj r=2∧r≠aF.zero):=by
 obtain⟨o,c,n⟩:=r;simp only at ho;subst ho;by_cases hz:(⟨false,c,n⟩:aF)=aF.zero
 ·exact .inl hz
 ·simp [fK,cM,hz]at h;exact .inr ⟨by simp [bj];omega,hz⟩
theorem dU{r:aF}(h:bj r=2):r.own=false∧1≤r.n∧r.n≤2000∧r≠aF.zero:=by
 obtain⟨o,c,n⟩:=r;cases o
 ·simp only [bj]at h;split at h
  ·rename_i h';exact absurd h' aw
  ·split at h
   ·rename_i h1;exact⟨rfl,h1.1,h1.2,fun hz=>by injection hz with _ _ hz;omega⟩
   ·split at h<;>omega
 ·simp only [bj]at h;simp at h;split at h<;>omega
section
variable {L:kR} {e:List El} {id:aD} {ops:List ct}
theorem vM{L L':kR}(h:∀c∈L,c∈L'){r:aF}{b:UInt8}{p:aF}{s:Bool}(hi:fj L r b p s):fj L' r b p s:=by
 obtain⟨id,ops,k,x,hm,hh⟩:=hi;exact⟨id,ops,k,x,h _ hm,hh⟩
theorem AP{L L':kR}(h:∀c∈L,c∈L'){r:aF}(hi:iL L r):iL L' r:=by
 obtain⟨id,ops,k,x,hm,hh⟩:=hi;exact⟨id,ops,k,x,h _ hm,hh⟩
theorem wA{e':List El}{k:Nat}(hb:gZ (L++[(id,ops.take k)]) e')(hid:id∉L.map (·.1))(hk:k≤ops.length):kX e' ⟨false,id,(k:Int)+1⟩=none:=by
 refine iz.2 fun x hx hn=>?_;rcases(hb.names _).1 ⟨x,hx,hn⟩with h|⟨b,p,s,id',ops',j,y,hm,hy,_,hr,_⟩
 ·injection h with _ _ h;omega
 ·injection hr with _ h1 h2
  rcases List.mem_append.1 hm with hm|hm
  ·subst h1;exact hid (List.mem_map.2 ⟨_,hm,rfl⟩)
  ·simp at hm;obtain⟨_,rfl⟩:=hm;have:=(List.getElem?_eq_some_iff.1 hy).1;rw [List.length_take]at this;omega
theorem pJ{e':List El}{k:Nat}{x:ct}(hb0:gZ L e)(hb:gZ (L++[(id,ops.take k)]) e')(hx:ops[k]? =some x)(hw:dB e ops k x=0):∃a,kX e' (res id x.at_)=some a:=by
 obtain⟨hr,hf⟩:=eB hw;have R:=j2 hx hr;refine HF ((hb.names _).2 ?_);by_cases ho:x.at_.own=true
 ·obtain⟨h1,h2,h3⟩:=R.own ho;rw [ep]at h3;cases hy:ops[(x.at_.n-1).toNat]? with
  |none=>rw [hy]at h3;simp at h3
  |some y=>
   rw [hy]at h3;simp at h3;refine .inr ⟨y.byte,res id y.at_,y.left,id,ops.take k,(x.at_.n-1).toNat,y,by simp,?_,h3,?_,rfl,rfl,rfl⟩
   ·rw [List.getElem?_take,if_pos ai];exact hy
   ·rw [res,if_pos ho,show(((x.at_.n-1).toNat:Int))+1=x.at_.n by omega]
 ·have ho':x.at_.own=false:=by simpa using ho
  rw [res,if_neg ho];rcases nh R.ref ho' with h|⟨h,_⟩
  ·exact .inl h
  ·obtain⟨a,ha⟩:=hf h;rcases(hb0.names _).1 (vN ha)with h|⟨b,p,s,h⟩
   ·exact .inl h
   ·exact .inr ⟨b,p,s,vM (fun c hc=>by simp [hc]) h⟩
theorem pg{a k:Nat}{x:ct}{e':List El}(ha:kX e' (res id x.at_)=some a)(hk:x.kind=2):tE id e' k x=hF e' a:=by rw [tE,ha];simp only;rw [if_pos hk]
theorem oZ{a k:Nat}{x:ct}{e':List El}(ha:kX e' (res id x.at_)=some a)(hk:x.kind=1):tE id e' k x=cZ e' a x.left ⟨false,id,(k:Int)+1⟩ x.byte:=by rw [tE,ha];simp only;rw [if_neg ai]
theorem nk{k:Nat}{x:ct}(hx:ops[k]? =some x):fF (ops.take (k+1))=fF (ops.take k)+if x.kind=1 then 1 else 0:=by
 rw [take_succ' hx,fF,fF,List.countP_append];by_cases h:x.kind=1<;>simp [h]
where
 take_succ' {α:Type} {l:List α} {i:Nat} {x:α} (h:l[i]? =some x):l.take (i+1)=l.take i++[x]:=by rw [List.take_add_one,h];rfl
theorem ld(g:Good e)(hb:gZ L e)(hid:id∉L.map (·.1))(hl:ops.length≤2000)(hw:cY e ops ops.length=0):∀k,k≤ops.length→Good (jm id ops e k)∧gZ (L++[(id,ops.take k)]) (jm id ops e k)∧(jm id ops e k).length=e.length+fF (ops.take k)
 |0,_=>⟨g,hb.start id ops,by simp [jm,fF]⟩
 |k+1,hk=>by
  obtain⟨g',hb',hn'⟩:=ld g hb hid hl hw k ai;obtain⟨x,hx⟩:∃x,ops[k]? =some x:=⟨_,List.getElem?_eq_getElem ai⟩;have hwx:=gh hw hx;obtain⟨a,ha⟩:=pJ hb hb' hx hwx;have R:=j2 hx (eB hwx).1;obtain⟨z,hz,hzn,_⟩:=lD.1 ha;have hnew:=wA hb' hid ai;rw [nc hx,nk hx];rcases R.kind with⟨hk1,_⟩|⟨hk2,_⟩
  ·rw [oZ ha hk1,if_pos hk1];refine⟨g'.grow (vR ha) hnew ⟨rfl,by show(1:Int)≤(k:Int)+1;omega,by show(k:Int)+1≤2000;omega⟩,hb'.ins g' hz hnew (fun r b p s=>?_) (fun r=>?_) (fun h=>by injection h with _ _ h;omega),by rw [fa,hn'];omega⟩
   ·rw [xM hx,hzn];simp only [hk1,true_and]
   ·rw [ye hx];simp [hk1]
  ·rw [pg ha hk2,if_neg ai];refine⟨g'.gone a,hb'.del g' hz (fun r b p s=>?_) (fun r=>?_),by rw [kQ,hn'];omega⟩
   ·rw [xM hx];simp [hk2]
   ·rw [ye hx,hzn];simp [hk2]
end
structure fI(L:kR)(T:Tr):Prop where
 eX:Good T.e
 built:gZ L T.e
 ads:T.ad=L.map (·.1)
 nodup:(L.map (·.1)).Nodup
 length:T.e.length=1+(L.map fun c=>fF c.2).sum
 G8:T.e.length≤400001
 fit:∀c∈L,c.2.length≤2000∧∀(k:Nat) (x:ct),c.2[k]? =some x→dn c.2 ((k:Int)+1)=0
 seq:∀P c Q,L=P++c::Q→∀x∈c.2,bj x.at_=2→∃b p s,fj P x.at_ b p s
theorem nY:fI [] Tr.new where
 eX:=B9
 built:=zG
 ads:=rfl
 nodup:=List.nodup_nil
 length:=rfl
 G8:=by show 1≤400001;omega
 fit c hc:=by cases hc
 seq P c Q h:=by cases P<;>cases h
theorem fI.add{L:kR}{T:Tr}{id:aD}{ops:List ct}(h:fI L T)(hw:di T id ops=0):fI (L++[(id,ops)]) (iJ T id ops):=by
 obtain⟨h1,h2,h3,h4⟩:=kK hw;have hid:id∉L.map (·.1):=by rw [←h.ads];exact h1
 obtain⟨g,hb,hn⟩:=ld h.eX h.built hid h2 h4 ops.length (Nat.le_refl _);rw [List.take_length]at hb hn;have hp:=h.eX.pos;rw [iJ,if_pos hw];refine⟨g,hb,by simp [h.ads],?_,by simp only [hn,h.length,List.map_append,List.sum_append,List.map_cons,List.map_nil,List.sum_cons,List.sum_nil];omega,by simp only;omega,fun c hc=>?_,fun P c Q he x hx hk=>?_⟩
 ·rw [List.map_append,List.nodup_append];exact⟨h.nodup,by simp,fun a ha b hb=>by simp at hb;subst hb;rintro rfl;exact hid ha⟩
 ·rcases List.mem_append.1 hc with hc|hc
  ·exact h.fit c hc
  ·simp at hc;subst hc;exact⟨h2,fun k x hx=>(eB (gh h4 hx)).1⟩
 ·rcases List.append_eq_append_iff.1 he with⟨t,h5,h6⟩|⟨t,h5,h6⟩
  ·cases t with
   |nil=>
    simp at h6 h5;obtain⟨rfl,rfl⟩:=h6;obtain⟨k,hx⟩:=List.mem_iff_getElem?.1 hx;obtain⟨a,ha⟩:=(eB (gh h4 hx)).2 hk;rcases(h.built.names _).1 (vN ha)with h7|h7
    ·exact absurd h7 (dU hk).2.2.2
    ·rw [h5];exact h7
   |cons d t=>
    simp at h6
  ·cases t with
   |nil=>
    simp at h6 h5;obtain⟨rfl,rfl⟩:=h6;obtain⟨k,hx⟩:=List.mem_iff_getElem?.1 hx;obtain⟨a,ha⟩:=(eB (gh h4 hx)).2 hk;rcases(h.built.names _).1 (vN ha)with h7|h7
    ·exact absurd h7 (dU hk).2.2.2
    ·rw [←h5];exact h7
   |cons d t=>
    simp only [List.cons_append,List.cons.injEq]at h6;obtain⟨rfl,h6⟩:=h6;exact h.seq P c t h5 x hx hk
def kt(e:List El)(i:Nat):aF×Bool×UInt8:=(nm e i,eV e i,if eV e i=true then 0 else gA e i)
theorem uk(e:List El):(bf e).map (kt e)=((bO e).map (kt e)).filter fun v=> !v.2.1:=by
 rw [bf,List.filter_map];rfl
theorem k5{e1 e2:List El}:∀{l1 l2:List Nat},l1.map (nm e1)=l2.map (nm e2)→(∀c1∈l1,∀c2∈l2,nm e1 c1=nm e2 c2→(aY e1 c1).map (kt e1)=(aY e2 c2).map (kt e2))→(l1.flatMap (aY e1)).map (kt e1)=(l2.flatMap (aY e2)).map (kt e2)
 | [],[],_,_=>rfl
 | [],_::_,h,_=>by simp at h
 |_::_,[],h,_=>by simp at h
 |a::l1,b::l2,h,hh=>by
  simp only [List.map_cons,List.cons.injEq]at h;rw [List.flatMap_cons,List.flatMap_cons,List.map_append,List.map_append,hh a aL b aL h.1,k5 h.2 fun c1 h1 c2 h2=>hh c1 (by simp [h1]) c2 (by simp [h2])]
theorem Bv{L1 L2:kR}{T1 T2:Tr}(h1:fI L1 T1)(h2:fI L2 T2)(hs:∀c,c∈L1↔c∈L2):(bO T1.e).map (kt T1.e)=(bO T2.e).map (kt T2.e):=by
 have hI:∀r b p s,fj L1 r b p s↔fj L2 r b p s:=fun r b p s=>⟨vM fun c hc=>(hs c).1 hc,vM fun c hc=>(hs c).2 hc⟩;have hD:∀r,iL L1 r↔iL L2 r:=fun r=>⟨AP fun c hc=>(hs c).1 hc,AP fun c hc=>(hs c).2 hc⟩;have key:∀i1,i1<T1.e.length→∀i2,i2<T2.e.length→nm T1.e i1=nm T2.e i2→(aY T1.e i1).map (kt T1.e)=(aY T2.e i2).map (kt T2.e):=by
  refine gJ h1.eX.down fun i1 x1 hx1 ih i2 hi2 hn=>?_;obtain⟨x2,hx2⟩:∃x,T2.e[i2]? =some x:=⟨_,List.getElem?_eq_getElem hi2⟩;rw [fc hx1,fc hx2]at hn;have d1:=h1.eX.down i1 x1 hx1;have d2:=h2.eX.down i2 x2 hx2;have m1:=List.mem_of_getElem? hx1;have m2:=List.mem_of_getElem? hx2;have s1:=h1.eX.sort i1 x1 hx1;have s2:=h2.eX.sort i2 x2 hx2;have el:qN T1.e x1.left=qN T2.e x2.left:=Ae s1.1 s2.1 fun r=>by
   rw [h1.built.left x1 m1,h2.built.left x2 m2,hn];simp only [hI]
  have er:qN T1.e x1.right=qN T2.e x2.right:=Ae s1.2 s2.2 fun r=>by
   rw [h1.built.right x1 m1,h2.built.right x2 m2,hn];simp only [hI]
  have eg:x1.gone=x2.gone:=by
   have g1:=h1.built.gone x1 m1;have g2:=h2.built.gone x2 m2;rw [hn,hD,←g2]at g1;cases hg:x2.gone<;>simp_all
  have eb:x2.gone=true∨x1.byte=x2.byte:=by
   by_cases h0:i1=0
   ·subst h0;obtain⟨z,hz,_,hzg⟩:=h1.eX.root;rw [hx1]at hz;injection hz with hz;subst hz
    exact .inl (eg▸hzg)
   ·have h0':i2≠0:=fun h=>by
     have:=(h2.eX.zero hx2).2 h;exact h0 ((h1.eX.zero hx1).1 (hn.trans this))
    obtain⟨p,s,hb1⟩:=h1.built.byte i1 x1 ai hx1;obtain⟨p',s',hb2⟩:=h2.built.byte i2 x2 ai hx2;rw [hn,hI]at hb1;exact .inr (yW h2.nodup hb1 hb2).1
  have ev:kt T1.e i1=kt T2.e i2:=by
   rw [kt,kt,fc hx1,fc hx2,eT hx1,eT hx2,lE hx1,lE hx2,hn,eg];rcases eb with h0|eb
   ·rw [if_pos h0,if_pos h0]
   ·rw [eb]
  rw [dG h1.eX.down hx1,dG h2.eX.down hx2,List.map_append,List.map_append,List.map_cons,List.map_cons,ev,
   k5 el fun c1 hc1 c2 hc2 he=>ih c1 (.inl hc1) (d1 c1 (.inl hc1)).2 c2 (d2 c2 (.inl hc2)).2 he,
   k5 er fun c1 hc1 c2 hc2 he=>ih c1 (.inr hc1) (d1 c1 (.inr hc1)).2 c2 (d2 c2 (.inr hc2)).2 he]
 refine key 0 h1.eX.pos 0 h2.eX.pos ?_;obtain⟨z1,hz1,hn1,_⟩:=h1.eX.root;obtain⟨z2,hz2,hn2,_⟩:=h2.eX.root;rw [fc hz1,fc hz2,hn1,hn2]
end Go.Fu
namespace Go.Fu
open Go.Fw Go.Pl
theorem uu{α:Type} [BEq α] [LawfulBEq α](f:α→Nat):∀{l:List α} {a:α},a∈l→(l.map f).sum=f a+((l.erase a).map f).sum
 | [],a,h=>by cases h
 |x::l,a,h=>by
  by_cases e:x=a
  ·subst e;simp
  ·rw [List.erase_cons_tail (by simpa using e)];have:=uu f (l:=l) (a:=a) (by rcases List.mem_cons.1 h with h|h;exact absurd h.symm e;exact h);simp only [List.map_cons,List.sum_cons];omega
theorem vW{α:Type} [BEq α] [LawfulBEq α](f:α→Nat):∀{l m:List α},l.Nodup→(∀x∈l,x∈m)→(l.map f).sum≤(m.map f).sum
 | [],_,_,_=>Nat.zero_le _
 |x::l,m,hn,h=>by
  have hn':=List.nodup_cons.1 hn;have hx:=h x aL;rw [uu f hx,List.map_cons,List.sum_cons];have:=vW f (l:=l) (m:=m.erase x) hn'.2 fun y hy=>(List.mem_erase_of_ne (fun e=>hn'.1 (by rw [←e];exact hy))).2 (h y (by simp [hy]));omega
theorem ma{e:List El}{ops:List ct}:∀{k:Nat},cY e ops k≠0→∃j x,j<k∧ops[j]? =some x∧dB e ops j x≠0
 |0,h=>absurd rfl h
 |k+1,h=>by
  by_cases h0:cY e ops k=0
  ·cases hx:ops[k]? with
   |none=>rw [cY,if_neg ai,hx]at h;exact absurd rfl h
   |some x=>rw [lG hx h0]at h;exact⟨k,x,by omega,hx,h⟩
  ·obtain⟨j,x,hj,hh⟩:=ma h0;exact⟨j,x,by omega,hh⟩
theorem zE{L1 L2:kR}{T1 T2:Tr}(h1:fI L1 T1)(h2:fI L2 T2)(hs:∀c,c∈L1↔c∈L2):(bf T1.e).map (nm T1.e)=(bf T2.e).map (nm T2.e)∧bZ T1.e=bZ T2.e∧T1.e.length=T2.e.length:=by
 have hv:=Bv h1 h2 hs;have hs1:=uk T1.e;have hs2:=uk T2.e;rw [hv,←hs2]at hs1;refine⟨?_,?_,?_⟩
 ·have:=congrArg (List.map (·.1)) hs1;rw [List.map_map,List.map_map]at this;exact this
 ·have hb:∀e:List El,bZ e=((bf e).map (kt e)).map (·.2.2):=fun e=>by
   rw [List.map_map,bZ];refine List.map_congr_left fun i hi=>?_;show gA e i=if eV e i=true then 0 else gA e i
   rw [jT hi];rfl
  rw [hb,hb,hs1]
 ·have:=congrArg List.length hv;rw [List.length_map,List.length_map,h1.eX.perm.length_eq,h2.eX.perm.length_eq,List.length_range,List.length_range]at this;exact this
theorem BQ(x:El)(e:List El)(s:Bool)(r:aF):(x.more e s r).name=x.name∧(x.more e s r).byte=x.byte∧(x.more e s r).gone=x.gone:=by unfold El.more;split<;>exact⟨rfl,rfl,rfl⟩
theorem tt{id:aD}{ops:List ct}{e:List El}:∀{k:Nat} {i:Nat} {x:El},e[i]? =some x→∃y,(jm id ops e k)[i]? =some y∧y.name=x.name∧y.byte=x.byte∧(x.gone=true→y.gone=true)
 |0,i,x,hx=>⟨x,hx,rfl,rfl,fun h=>h⟩
 |k+1,i,x,hx=>by
  obtain⟨y,hy,h1,h2,h3⟩:=tt (id:=id) (ops:=ops) (k:=k) hx;rw [jm];cases ho:ops[k]? with
  |none=>exact⟨y,hy,h1,h2,h3⟩
  |some o=>
   simp only;unfold tE;cases ha:kX (jm id ops e k) (res id o.at_)with
   |none=>exact⟨y,hy,h1,h2,h3⟩
   |some a=>
    simp only;split
    ·refine⟨if i=a then{y with gone:=true}else y,by rw [gR,hy];rfl,?_⟩;split
     ·exact⟨h1,h2,fun _=>rfl⟩
     ·exact⟨h1,h2,h3⟩
    ·refine⟨_,gM hy,?_⟩;split
     ·have:=BQ y (jm id ops e k) o.left ⟨false,id,(k:Int)+1⟩;exact⟨this.1.trans h1,this.2.1.trans h2,fun h=>this.2.2.trans (h3 h)⟩
     ·exact⟨h1,h2,h3⟩
theorem tn{id:aD}{ops:List ct}{e:List El}{L:kR}(g:Good e)(hb:gZ L e)(hid:id∉L.map (·.1))(hl:ops.length≤2000)(hw:cY e ops ops.length=0):∀k,k≤ops.length→(bO (jm id ops e k)).filter (fun i=>decide (i<e.length))=bO e
 |0,_=>List.filter_eq_self.2 fun i hi=>decide_eq_true (xn g.down hi)
 |k+1,hk=>by
  have ih:=tn g hb hid hl hw k ai;obtain⟨g',hb',hn'⟩:=ld g hb hid hl hw k ai;obtain⟨x,hx⟩:∃x,ops[k]? =some x:=⟨_,List.getElem?_eq_getElem ai⟩;obtain⟨a,ha⟩:=pJ hb hb' hx (gh hw hx);have R:=j2 hx (eB (gh hw hx)).1;rw [nc hx];rcases R.kind with⟨hk1,_⟩|⟨hk2,_⟩
  ·rw [oZ ha hk1];have:=qG (left:=x.left) (r:=⟨false,id,(k:Int)+1⟩) (b:=x.byte) g'.down (vR ha) 0 g'.pos;rw [←ih,bO,bO,←this,List.filter_filter];refine List.filter_congr fun i _=>?_;by_cases h:i<e.length
   ·simp [h];omega
   ·simp [h]
  ·rw [pg ha hk2,bO,uz];exact ih
structure pS (T T' : Tr) (id : aD) (ops : List ct) : Prop where
 /-- What stays seen keeps its order. -/
 order : (bf T.e).Pairwise fun i j => i ∈ bf T'.e → j ∈ bf T'.e → (bf T'.e).idxOf i < (bf T'.e).idxOf j
 old : ∀ i, i < T.e.length → nm T'.e i = nm T.e i
 gone : ∀ i ∈ bf T.e, i ∈ bf T'.e ↔ ¬ ∃ x ∈ ops, x.kind = 2 ∧ x.at_ = nm T.e i
 new : ∀ i ∈ bf T'.e, i ∈ bf T.e ∨ (nm T'.e i).c = id
theorem keeps{L:kR}{T:Tr}(h:fI L T){id:aD}{ops:List ct}(hw:di T id ops=0):pS T (iJ T id ops) id ops:=by
 obtain⟨i1,i2,i3,i4⟩:=kK hw;have hid:id∉L.map (·.1):=by rw [←h.ads];exact i1
 have h':=h.add hw;have he:(iJ T id ops).e=jm id ops T.e ops.length:=by rw [iJ,if_pos hw]
 have hord:=tn h.eX h.built hid i2 i4 ops.length (Nat.le_refl _);rw [←he]at hord;have hold:∀(i:Nat) (x:El),T.e[i]? =some x→∃y:El,(iJ T id ops).e[i]? =some y∧y.name=x.name∧y.byte=x.byte∧(x.gone=true→y.gone=true):=fun i x hx=>by rw [he];exact tt hx
 generalize iJ T id ops=T' at*;have hnm:∀i,i<T.e.length→nm T'.e i=nm T.e i:=fun i hi=>by
  obtain⟨x,hx⟩:∃x,T.e[i]? =some x:=⟨_,List.getElem?_eq_getElem hi⟩;obtain⟨y,hy,hn,_⟩:=hold i x hx;rw [fc hx,fc hy,hn]
 have hsub:(bf T'.e).filter (fun i=>decide (i<T.e.length))=(bf T.e).filter fun i=> !eV T'.e i:=by
  rw [bf,bf,←hord,List.filter_filter,List.filter_filter,List.filter_filter];refine List.filter_congr fun i _=>?_;by_cases hi:i<T.e.length
  ·obtain⟨x,hx⟩:∃x,T.e[i]? =some x:=⟨_,List.getElem?_eq_getElem hi⟩;obtain⟨y,hy,_,_,hg⟩:=hold i x hx;rw [eT hx,eT hy];cases hxg:x.gone
   ·simp [hi]
   ·simp [hg hxg]
  ·simp [hi]
 refine⟨?_,hnm,fun i hi=>?_,fun i hi=>?_⟩
 ·have hp:(bf T'.e).Pairwise fun i j=>(bf T'.e).idxOf i<(bf T'.e).idxOf j:=by
   rw [List.pairwise_iff_getElem];intro p q hp hq hpq;rw [h'.eX.sR.idxOf_getElem p hp,h'.eX.sR.idxOf_getElem q hq];exact hpq
  have hp2:=List.Pairwise.sublist (List.filter_sublist (p:=fun i=>decide (i<T.e.length))) hp;rw [hsub,List.pairwise_filter]at hp2;exact hp2.imp fun{i j} hh hi hj=>hh (by rw [jT hi];rfl) (by rw [jT hj];rfl)
 ·have hil:=jI h.eX.down hi;obtain⟨x,hx⟩:∃x,T.e[i]? =some x:=⟨_,List.getElem?_eq_getElem hil⟩;obtain⟨y,hy,hyn,_,_⟩:=hold i x hx;have hxg:x.gone=false:=by have:=jT hi;rwa [eT hx]at this
  have hxz:x.name≠aF.zero:=fun hz=>by have:=h.eX.DF hi;have:=(h.eX.zero hx).1 hz;omega
  have hxd:¬iL L x.name:=fun hd=>by have:=(h.built.gone x (List.mem_of_getElem? hx)).2 (.inr hd);rw [hxg]at this;cases this
  rw [h'.eX.xJ hy,fc hx,←Bool.not_eq_true,h'.built.gone y (List.mem_of_getElem? hy),hyn];refine not_congr ⟨?_,?_⟩
  ·rintro(hz|⟨id',ops',k,o,hm,ho,hk,hr⟩)
   ·exact absurd hz hxz
   ·rcases List.mem_append.1 hm with hm|hm
    ·exact absurd ⟨id',ops',k,o,hm,ho,hk,hr⟩ hxd
    ·simp at hm;obtain⟨rfl,rfl⟩:=hm;refine⟨o,List.mem_of_getElem? ho,hk,?_⟩;by_cases hown:o.at_.own=true
     ·exfalso;rw [res,if_pos hown]at hr;rcases(h.built.names x.name).1 ⟨x,List.mem_of_getElem? hx,rfl⟩with hz|⟨b,p,s,id2,ops2,k2,o2,hm2,_,_,hr2,_⟩
      ·exact hxz hz
      ·rw [hr]at hr2;injection hr2 with _ hh _
       exact hid (by rw [hh];exact List.mem_map_of_mem hm2)
     ·rw [res,if_neg hown]at hr;exact hr.symm
  ·rintro⟨o,ho,hk,hr⟩;obtain⟨k,ho⟩:=List.mem_iff_getElem?.1 ho;refine .inr ⟨id,ops,k,o,by simp,ho,hk,?_⟩;rw [res,hr,if_neg (by rw [h.eX.Ig hx];decide)]
 ·by_cases hil:i<T.e.length
  ·left;obtain⟨x,hx⟩:∃x,T.e[i]? =some x:=⟨_,List.getElem?_eq_getElem hil⟩;obtain⟨y,hy,_,_,hg⟩:=hold i x hx;rw [h.eX.xJ hx];have:=jT hi;rw [eT hy]at this;cases hxg:x.gone
   ·rfl
   ·rw [hg hxg]at this;cases this
  ·right;have hil':=jI h'.eX.down hi;obtain⟨y,hy⟩:∃y,T'.e[i]? =some y:=⟨_,List.getElem?_eq_getElem hil'⟩;rw [fc hy];have hp:=h.eX.pos;rcases(h'.built.names y.name).1 ⟨y,List.mem_of_getElem? hy,rfl⟩with hz|⟨b,p,s,id',ops',k,o,hm,ho,hk,hr,hh⟩
   ·have:=(h'.eX.zero hy).1 hz;omega
   ·rcases List.mem_append.1 hm with hm|hm
    ·exfalso;obtain⟨x,hx,hxn⟩:=(h.built.names y.name).2 (.inr ⟨b,p,s,id',ops',k,o,hm,ho,hk,hr,hh⟩);obtain⟨j,hx⟩:=List.mem_iff_getElem?.1 hx;obtain⟨y',hy',hn',_⟩:=hold j x hx;have:=h'.eX.inj hy' hy (hn'.trans hxn);have:=(List.getElem?_eq_some_iff.1 hx).1;omega
    ·simp at hm;rw [hr,hm.1]
end Go.Fu
namespace Go.Fw
open Go.RowKit
section
variable {P:Program} {n:NN} {fr:Fr} {w:World} {ty:TypeId}
theorem Y.Cn{x y:Operand}{k:IntKind}{p q:Nat}{t t':TypeId}(hx:ev fr x=some (.int k (p:Int)))(hy:ev fr y=some (.int k (q:Int)))(h:q≠0):Yw P n fr (.binOp .rem t x y t') ty w (.int k ((p % q:Nat):Int)) w:=Y.rem hx hy ai
theorem Y.Ji{x y:Operand}{p q:Nat}{t t':TypeId}(hx:ev fr x=some (.int .i64 (p:Int)))(hy:ev fr y=some (.int .i64 (q:Int)))(h:q≠0)(hp:p≤9223372036854775807:=by omega):Yw P n fr (.binOp .quo t x y t') ty w (.int .i64 ((p/q:Nat):Int)) w:=by
 have h1:=Y.quo (P:=P) (n:=n) (w:=w) (ty:=ty) (t:=t) (t':=t') hx hy ai;have e:IntKind.i64.wrap ((p:Int).tdiv (q:Int))=((p/q:Nat):Int):=by
  rw [←Int.ofNat_tdiv];have h2:=Nat.div_le_self p q;generalize p/q=r at h2;exact jj bB
 rwa [e]at h1
theorem Y.uD{x lo hi:Operand}{s:ByteArray}{t:TypeId}{i j:Nat}{ki kj:IntKind}{zi zj:Int}(hT:P.underlying t=some .string)(hx:ev fr x=some (.string s))(hlo:ev fr lo=some (.int ki zi))(hhi:ev fr hi=some (.int kj zj))(hi':zi=(i:Int))(hj':zj=(j:Int))(h1:i≤j)(h2:j≤s.size):
  Yw P n fr (.slice t x (some lo) (some hi) none) ty w (.string (s.extract i j)) w:=fun b o' ho _ ha=>by
 subst hi';subst hj';have e1:(0:Int)≤(i:Int):=by omega
 have e2:(0:Int)≤(j:Int):=by omega
 simp [execOp,ho,ha.ev hx,ha.ev hlo,ha.ev hhi,Instr.sliceAt,Instr.slice,run_underlying hT,Instr.sliceBounds,Instr.sliceBound,asIntOf,e1,e2,h1,h2]
end
end Go.Fw
namespace Go.Proofs.YtmehkigmnpjcjaaGreatDoor
open Go.RowKit Go.Fw Go.Pl Go.Proofs.Tryz
theorem Jm:∀n:Nat,n<32→1≤n→IntKind.u64.wrap ((BitVec.ofInt IntKind.u64.bits (IntKind.u64.wrap (IntKind.i64.wrap (0-(n:Int))))&&&BitVec.ofInt IntKind.u64.bits 31).toNat:Int)=((32-n:Nat):Int):=by decide+kernel
theorem I2:∀n:Nat,n<32→1≤n→IntKind.u64.wrap (32-((32-n:Nat):Int))=(n:Int):=by decide+kernel
theorem Jw:∀n:Nat,n<32→1≤n→IntKind.u64.wrap (32-(n:Int))=((32-n:Nat):Int):=by decide+kernel
theorem IF:∀n:Nat,n<256→48≤n→n≤57→IntKind.i64.wrap (IntKind.u8.wrap ((n:Int)-48))=((n-48:Nat):Int):=by decide+kernel
theorem IU:∀n:Nat,n<256→97≤n→n≤102→IntKind.i64.wrap (IntKind.u8.wrap ((n:Int)-97))=((n-97:Nat):Int):=by decide+kernel
theorem En(x:UInt32)(n:Nat)(w:World)(h1:1≤n)(h2:n<32):Calls prog 141 #[wd x,.int .i64 (IntKind.i64.wrap (0-(n:Int)))] w (cB fun v w'=>v=wd (o7 x n)∧Ext w w'):=by
 refine ar 17 [4] [(0,wd x),(1,.int .i64 (IntKind.i64.wrap (0-(n:Int))))] func141 rfl rfl rfl aL cz ?_;have hE:Ext w w:=aE.refl;refine CW.sr fun K1 hK1=>WL.a rfl<|WL.nil (hK1 _ _ ?_);clear hK1;refine CW.sr fun K2 hK2=>WL.m rfl<|WL.v (Y.de underlying3 underlying159 rfl)<|WL.v (Y.I7 rfl rfl (Jm n h2 h1))<|WL.a rfl<|WL.nil (hK2 _ _ ?_);clear hK2;refine CW.sr fun K3 hK3=>WL.m rfl<|WL.m rfl<|WL.v (Y.xG (32-n) rfl rfl rfl ai)<|WL.m rfl<|WL.m rfl<|WL.v (Y.xH rfl rfl)<|WL.v (Y.tQ n rfl rfl (I2 n h2 h1) ai)<|WL.v (Y.Jo rfl rfl)<|WL.a rfl<|WL.nil (hK3 _ _ ?_);clear hK3;refine CW.ret ⟨_,rfl,?_⟩;exact⟨by rw [o7,UInt32.or_comm],hE⟩
theorem eI(x:UInt32)(n:Nat)(w:World)(h1:1≤n)(h2:n<32):Calls prog 139 #[wd x,.int .i64 (n:Int)] w (cB fun v w'=>v=wd (o7 x n)∧Ext w w'):=by
 refine ar 9 [4] [(0,wd x),(1,.int .i64 (n:Int))] func139 rfl rfl rfl aL cz ?_;have hE:Ext w w:=aE.refl;refine CW.sr fun K1 hK1=>WL.a rfl<|WL.nil (hK1 _ _ ?_);clear hK1;refine CW.sr fun K2 hK2=>WL.m rfl<|WL.m rfl<|WL.v (Y.neg rfl)<|WL.call func141 rfl rfl rfl (En x n _ h1 h2) aL ?_;rintro v w1 ⟨rfl,hx1⟩;have hz1:=hx1.size;have hE:=hE.ae hx1;refine WL.a rfl<|WL.nil (hK2 _ _ ?_);clear hK2;refine CW.ret ⟨_,rfl,?_⟩;exact⟨rfl,hE⟩
theorem gG(x:UInt32)(n:Nat)(w:World)(h1:1≤n)(h2:n<32):Calls prog 129 #[wd x,.int .u64 (n:Int)] w (cB fun v w'=>v=wd (o7 x n)∧Ext w w'):=by
 refine ar 13 [4] [(0,wd x),(1,.int .u64 (n:Int))] func129 rfl rfl rfl aL cz ?_;have hE:Ext w w:=aE.refl;refine CW.sr fun K1 hK1=>WL.a rfl<|WL.nil (hK1 _ _ ?_);clear hK1;refine CW.sr fun K2 hK2=>WL.m rfl<|WL.m rfl<|WL.v (Y.tQ n rfl rfl rfl ai)<|WL.m rfl<|WL.m rfl<|WL.v (Y.xH rfl rfl)<|WL.v (Y.xG (32-n) rfl rfl (Jw n h2 h1) ai)<|WL.v (Y.Jo rfl rfl)<|WL.a rfl<|WL.nil (hK2 _ _ ?_);clear hK2;refine CW.ret ⟨_,rfl,?_⟩;exact⟨rfl,hE⟩
theorem Bs(c:UInt8)(w:World):Calls prog 128 #[.int .u8 (c.toNat:Int)] w (cB fun v w'=>v= .int .i64 (Bt c:Int)∧Ext w w'):=by
 have hc:=c.toNat_lt;refine ar 22 [2] [(0,.int .u8 (c.toNat:Int))] func128 rfl rfl rfl aL du ?_;have hE:Ext w w:=aE.refl;refine CW.sr fun K1 hK1=>WL.a rfl<|WL.nil (hK1 _ _ ?_);clear hK1;refine CW.seq fun K2 hK2=>?_;refine CW.bS 8 (48≤c.toNat∧c.toNat≤57) ?_ ?_
 ·refine CW.region<|WL.m rfl<|WL.v (Y.geq rfl rfl)<|WL.m rfl ?_;refine dO ?_ ?_<;>intro hg5
  ·refine WL.g rfl rfl (Y.move rfl)<|WL.g rfl rfl (Y.leq rfl rfl)<|WL.v (Y.pick rfl rfl)<|WL.nil ⟨⟨_,rfl,?_⟩,rfl,Fr.cT⟩;exact aH
  ·refine WL.o rfl rfl<|WL.o rfl rfl<|WL.v (Y.pick rfl rfl)<|WL.nil ⟨⟨_,rfl,?_⟩,rfl,Fr.cT⟩;exact aH
 refine bp ?_ ?_<;>intro ht3
 ·refine CW.sr fun K4 hK4=>WL.m rfl<|WL.v (Y.xH rfl rfl)<|WL.v (Y.de underlying5 underlying3 rfl)<|WL.a rfl<|WL.nil (hK4 _ _ ?_);clear hK4;refine CW.ret ⟨_,rfl,?_⟩;exact⟨by rw [IF _ hc ai ai,Bt,if_pos ai],hE⟩
 refine CW.skip ?_;refine hK2 _ _ ?_;clear hK2;refine CW.seq fun K5 hK5=>?_;refine CW.bS 17 (97≤c.toNat∧c.toNat≤102) ?_ ?_
 ·refine CW.region<|WL.m rfl<|WL.v (Y.geq rfl rfl)<|WL.m rfl ?_;refine dO ?_ ?_<;>intro hg14
  ·refine WL.g rfl rfl (Y.move rfl)<|WL.g rfl rfl (Y.leq rfl rfl)<|WL.v (Y.pick rfl rfl)<|WL.nil ⟨⟨_,rfl,?_⟩,rfl,Fr.cT⟩;exact aH
  ·refine WL.o rfl rfl<|WL.o rfl rfl<|WL.v (Y.pick rfl rfl)<|WL.nil ⟨⟨_,rfl,?_⟩,rfl,Fr.cT⟩;exact aH
 refine bp ?_ ?_<;>intro ht6
 ·refine CW.sr fun K7 hK7=>WL.m rfl<|WL.v (Y.xH rfl rfl)<|WL.v (Y.de underlying5 underlying3 rfl) ?_;rw [IU _ hc ai ai];refine WL.v (Y.add rfl rfl bB)<|WL.a rfl<|WL.nil (hK7 _ _ ?_);clear hK7;refine CW.ret ⟨_,rfl,?_⟩;exact⟨by rw [Bt,if_neg ai,if_pos ai];simp,hE⟩
 refine CW.skip ?_;refine hK5 _ _ ?_;clear hK5;refine CW.sr fun K8 hK8=>WL.a rfl<|WL.nil (hK8 _ _ ?_);clear hK8;refine CW.ret ⟨_,rfl,?_⟩;exact⟨by rw [Bt,if_neg ai,if_neg ai];rfl,hE⟩
theorem xp(s:ByteArray)(i:Nat)(w:World)(hi:8*i+8≤s.size)(hs:s.size≤maxLen):Calls prog 107 #[.string s,.int .i64 (i:Int)] w (cB fun v w'=>v=wd (mJ s.toList i 8)∧Ext w w'):=by
 unfold maxLen at hs;have hsl:=bR s;refine ar 25 [4] [(0,.string s),(1,.int .i64 (i:Int))] func107 rfl rfl rfl aL cz ?_;have hE:Ext w w:=aE.refl;refine CW.sr fun K1 hK1=>WL.a rfl<|WL.nil (hK1 _ _ ?_);clear hK1;refine CW.sr fun K2 hK2=>WL.a rfl<|WL.nil (hK2 _ _ ?_);clear hK2;refine CW.seq fun K3 hK3=>CW.sr fun K4 hK4=>WL.m rfl<|WL.v (Y.mul rfl rfl bB)<|WL.a rfl<|WL.nil (hK4 _ _ ?_);clear hK4;refine CW.block ?_;refine CW.loop (X:=Nat) (fun x=>[(0,.string s),(1,.int .i64 (i:Int)),(5,wd (mJ s.toList i x)),(6,.int .i64 ((8*i+x:Nat):Int))]) (fun x w0=>x≤8∧Ext w w0) (fun x=>8-x) 0 (by first|exact Fr.le.nil|repeat (first|exact Fr.le.nil|refine Fr.le.cons rfl ?_)) ⟨Nat.zero_le _,hE⟩ ?_;intro x w1 hl1;obtain⟨hx,hE⟩:=hl1;refine CW.seq fun K5 hK5=>CW.sr fun K6 hK6=>WL.m rfl<|WL.m rfl<|WL.v (Y.mul rfl rfl bB)<|WL.v (Y.add rfl rfl bB)<|WL.v (Y.lss rfl rfl)<|WL.nil (hK6 _ _ ?_);clear hK6;refine bp ?_ ?_<;>intro ht7
 ·refine CW.skip ?_;refine hK5 _ _ ?_;clear hK5;refine CW.seq fun K8 hK8=>?_;refine CW.block<|CW.region<|WL.m rfl<|WL.v (Y.JW (p:=16) rfl rfl)<|WL.m rfl<|WL.m rfl<|WL.v (Y.cJ (i:=(8*i+x)) underlying9 rfl rfl ai)<|WL.call func128 rfl rfl rfl (Bs _ _) aL ?_;rintro v w2 ⟨rfl,hx2⟩;have hz2:=hx2.size;have hE:=hE.ae hx2;refine WL.v (Y.H8 underlying3 underlying192 rfl)<|WL.v (Y.fL rfl rfl)<|WL.a rfl<|WL.nil (hK8 _ _ ?_);clear hK8;refine CW.region<|WL.m rfl<|WL.v (Y.add rfl rfl bB)<|WL.a rfl<|WL.nil ?_;have e1:mJ s.toList i (x+1)=16*mJ s.toList i x+UInt32.ofNat (Bt s[8*i+x]):=by rw [mJ,List.getD_eq_getElem?_getD,ku ai];rfl
  have e2:((8*i+(x+1):Nat):Int)=((8*i+x:Nat):Int)+1:=by omega
  refine⟨x+1,by show 8-(x+1)<8-x;omega,?_,by show x+1≤8;omega,hE⟩;show Fr.le [(0,.string s),(1,.int .i64 (i:Int)),(5,wd (mJ s.toList i (x+1))),(6,.int .i64 ((8*i+(x+1):Nat):Int))] _;rw [e1,e2];exact Fr.ok
 refine CW.exit ?_;refine hK3 _ _ ?_;clear hK3;refine CW.sr fun K9 hK9=>WL.m rfl<|WL.a rfl<|WL.nil (hK9 _ _ ?_);clear hK9;refine CW.ret ⟨_,rfl,?_⟩;exact⟨by rw [show x=8 by omega],hE⟩
end Go.Proofs.YtmehkigmnpjcjaaGreatDoor
