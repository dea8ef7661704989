/- Parts of a proof: what its last text leans on. No condition. -/
import Derived.Test.YtmehkigmnpjcjaaGreatDoorK04
set_option linter.unusedSimpArgs false
set_option linter.unusedVariables false
namespace Go.Fu
open Go.Fw Go.Pl
theorem DA:∀{a b:List UInt8},Op.bytesLess a b=true→Op.bytesLess b a=false
 |_,[],h=>by simp [Op.bytesLess]at h
 | [],_::_,_=>by simp [Op.bytesLess]
 |a::x,b::y,h=>by
  simp only [Op.bytesLess,Bool.or_eq_true,decide_eq_true_eq,Bool.and_eq_true,beq_iff_eq]at h;simp only [Op.bytesLess,Bool.or_eq_false_iff,decide_eq_false_iff_not,Bool.and_eq_false_imp,beq_iff_eq];rcases h with h|⟨rfl,h⟩
  ·exact⟨fun h'=>by have:=UInt8.lt_iff_toNat_lt.1 h;have:=UInt8.lt_iff_toNat_lt.1 h';omega,fun e=>by subst e;exact absurd h (UInt8.lt_irrefl _)⟩
  ·exact⟨UInt8.lt_irrefl _,fun _=>DA h⟩
theorem xg:∀{a b c:List UInt8},Op.bytesLess a b=true→Op.bytesLess b c=true→Op.bytesLess a c=true
 |_,[],_,h,_=>by simp [Op.bytesLess]at h
 |_,_::_,[],_,h=>by simp [Op.bytesLess]at h
 | [],_::_,_::_,_,_=>by simp [Op.bytesLess]
 |a::x,b::y,c::z,h,k=>by
  simp only [Op.bytesLess,Bool.or_eq_true,decide_eq_true_eq,Bool.and_eq_true,beq_iff_eq]at h k⊢;rcases h with h|⟨rfl,h⟩
  ·rcases k with k|⟨rfl,k⟩
   ·exact .inl (UInt8.lt_trans h k)
   ·exact .inl h
  ·rcases k with k|⟨rfl,k⟩
   ·exact .inl k
   ·exact .inr ⟨rfl,xg h k⟩
theorem EV:∀{a b:List UInt8},a.length=b.length→Op.bytesLess a b=false→Op.bytesLess b a=false→a=b
 | [],[],_,_,_=>rfl
 | [],_::_,h,_,_=>by simp at h
 |_::_,[],h,_,_=>by simp at h
 |a::x,b::y,hl,h,k=>by
  simp only [Op.bytesLess,Bool.or_eq_false_iff,decide_eq_false_iff_not,Bool.and_eq_false_imp,beq_iff_eq]at h k;have e:a=b:=UInt8.toNat_inj.1 (by
   have h1:¬a.toNat<b.toNat:=fun x=>h.1 (UInt8.lt_iff_toNat_lt.2 x);have h2:¬b.toNat<a.toNat:=fun x=>k.1 (UInt8.lt_iff_toNat_lt.2 x);omega)
  subst e;rw [EV (by simpa using hl) (h.2 rfl) (k.2 rfl)]
theorem FC{a b c:aD}(h:bX a b=true)(k:bX b c=true):bX a c=true:=xg h k
theorem H9{a b:aD}(h:bX a b=false)(k:bX b a=false):a=b:=Subtype.ext (EV (by rw [a.2,b.2]) h k)
theorem ud(a:aD):bX a a=false:=fW _
structure El where
 name:aF
 byte:UInt8
 gone:Bool
 left:List Nat
 right:List Nat
def El.root:El:=⟨aF.zero,0,true,[],[]⟩
def ig(e:List El):Nat→Nat→List Nat
 |0,_=>[]
 |k+1,i=>match e[i]? with
  |none=>[]
  |some x=>x.left.flatMap (ig e k)++i::x.right.flatMap (ig e k)
def aY(e:List El)(i:Nat):List Nat:=ig e e.length i
abbrev bO(e:List El):List Nat:=aY e 0
def Down(e:List El):Prop:=∀i x,e[i]? =some x→∀c,c∈x.left∨c∈x.right→i<c∧c<e.length
section
variable {e e':List El}
theorem eD{α β:Type}{l:List α}{f g:α→List β}(h:∀x∈l,f x=g x):l.flatMap f=l.flatMap g:=by
 induction l with
 |nil=>rfl
 |cons a r ih=>rw [List.flatMap_cons,List.flatMap_cons,h a aL,ih fun x hx=>h x (by simp [hx])]
theorem jN(h:Down e):∀{k k' i:Nat},e.length≤k+i→e.length≤k'+i→ig e k i=ig e k' i
 |0,0,i,_,_=>rfl
 |0,k'+1,i,h1,_=>by
  have:e[i]? =none:=List.getElem?_eq_none_iff.2 ai;simp [ig,this]
 |k+1,0,i,_,h2=>by
  have:e[i]? =none:=List.getElem?_eq_none_iff.2 ai;simp [ig,this]
 |k+1,k'+1,i,h1,h2=>by
  rw [ig,ig];cases hx:e[i]? with
  |none=>rfl
  |some x=>
   have hd:=h i x hx;simp only;rw [eD (l:=x.left) (g:=ig e k') fun c hc=>jN h (by have:=hd c (.inl hc);omega) (by have:=hd c (.inl hc);omega),
    eD (l:=x.right) (g:=ig e k') fun c hc=>jN h (by have:=hd c (.inr hc);omega) (by have:=hd c (.inr hc);omega)]
theorem dG(h:Down e){i:Nat}{x:El}(hx:e[i]? =some x):aY e i=x.left.flatMap (aY e)++i::x.right.flatMap (aY e):=by
 have hi:=(List.getElem?_eq_some_iff.1 hx).1;have hd:=h i x hx;obtain⟨k,hk⟩:∃k,e.length=k+1:=⟨e.length-1,by omega⟩;rw [aY,hk,ig,hx];simp only;rw [eD (l:=x.left) (g:=aY e) fun c hc=>jN h (by have:=hd c (.inl hc);omega) ai,
  eD (l:=x.right) (g:=aY e) fun c hc=>jN h (by have:=hd c (.inr hc);omega) ai]
theorem B6{i:Nat}(hi:e.length≤i):aY e i=[]:=by
 have:e[i]? =none:=List.getElem?_eq_none_iff.2 hi;unfold aY;cases e.length<;>simp [ig,this]
theorem gJ(h:Down e){P:Nat→Prop}(step:∀i x,e[i]? =some x→(∀c,c∈x.left∨c∈x.right→c<e.length→P c)→P i):∀i,i<e.length→P i:=by
 have key:∀m i,e.length-i=m→i<e.length→P i:=by
  intro m;induction m using Nat.strongRecOn with
  |_ m ih=>
   intro i hm hi;obtain⟨x,hx⟩:∃x,e[i]? =some x:=⟨_,List.getElem?_eq_getElem hi⟩;exact step i x hx fun c hc hl=>by
    have:=h i x hx c hc;exact ih (e.length-c) ai c rfl hl
 exact fun i hi=>key _ i rfl hi
theorem F3(h:Down e):∀i,i<e.length→∀j∈aY e i,j<e.length∧i≤j∨j<e.length:=by
 refine gJ h fun i x hx ih j hj=>?_;have hd:=h i x hx;have hi:=(List.getElem?_eq_some_iff.1 hx).1;rw [dG h hx,List.mem_append,List.mem_cons,List.mem_flatMap,List.mem_flatMap]at hj;rcases hj with⟨c,hc,hj⟩|rfl|⟨c,hc,hj⟩
 ·have:=ih c (.inl hc) (hd c (.inl hc)).2 j hj;omega
 ·exact .inr hi
 ·have:=ih c (.inr hc) (hd c (.inr hc)).2 j hj;omega
theorem xn(h:Down e){j:Nat}(hj:j∈bO e):j<e.length:=by
 by_cases h0:0<e.length
 ·have:=F3 h 0 h0 j hj;omega
 ·rw [bO,B6 ai]at hj;cases hj
def kz(f:Nat→Bool)(n:Nat):List Nat→List Nat
 | []=>[n]
 |y::r=>if f y=true then n::y::r else y::kz f n r
theorem kf(f:Nat→Bool)(n:Nat):∀l:List Nat,∃a b,l=a++b∧kz f n l=a++n::b∧(∀y∈a,f y=false)∧(∀y r,b=y::r→f y=true)
 | []=>⟨[],[],rfl,rfl,fun _ h=>by simp at h,fun _ _ h=>by simp at h⟩
 |y::r=>by
  rw [kz];by_cases h:f y=true
  ·rw [if_pos h];exact⟨[],y::r,rfl,rfl,fun _ h=>by simp at h,fun _ _ he=>by cases he;exact h⟩
  ·rw [if_neg h];obtain⟨a,b,h1,h2,h3,h4⟩:=kf f n r;exact⟨y::a,b,by rw [h1];rfl,by rw [h2];rfl,fun z hz=>by
    rcases List.mem_cons.1 hz with rfl|hz
    ·simpa using h
    ·exact h3 z hz,h4⟩
theorem tD{f:Nat→Bool}{n c:Nat}{l:List Nat}:c∈kz f n l↔c=n∨c∈l:=by
 obtain⟨a,b,h1,h2,_⟩:=kf f n l;rw [h2,h1];simp only [List.mem_append,List.mem_cons];constructor<;>(intro h;rcases h with h|h|h<;>simp [h])
noncomputable def cC(a b:aF):Bool:=bX a.c b.c||(decide (a.c=b.c)&&decide (a.n<b.n))
def nm(e:List El)(i:Nat):aF:=(e[i]?.map El.name).getD aF.zero
theorem fc{i:Nat}{x:El}(h:e[i]? =some x):nm e i=x.name:=by rw [nm,h];rfl
noncomputable def tX(e:List El)(r:aF)(l:List Nat):List Nat:=kz (fun y=>cC r (nm e y)) e.length l
noncomputable def El.more(x:El)(e:List El)(left:Bool)(r:aF):El:=if left=true then{x with left:=tX e r x.left}else{x with right:=tX e r x.right}
noncomputable def cZ(e:List El)(at_:Nat)(left:Bool)(r:aF)(b:UInt8):List El:=(e++[(⟨r,b,false,[],[]⟩:El)]).modify at_ fun x=>x.more e left r
def hF(e:List El)(at_:Nat):List El:=e.modify at_ fun x=>{x with gone:=true}
theorem l9{l:List El}{i j:Nat}{f:El→El}(h:i≠j):(l.modify i f)[j]? =l[j]? :=by
 rw [List.getElem?_modify];cases l[j]? <;>simp [h]
theorem qP{l:List El}{i:Nat}{f:El→El}{x:El}(h:l[i]? =some x):(l.modify i f)[i]? =some (f x):=by
 rw [List.getElem?_modify,h];simp
section grow
variable {at_:Nat} {left:Bool} {r:aF} {b:UInt8}
theorem fa:(cZ e at_ left r b).length=e.length+1:=by simp [cZ]
theorem j9(ha:at_<e.length):(cZ e at_ left r b)[e.length]? =some ⟨r,b,false,[],[]⟩:=by
 rw [cZ,l9 ai];simp
theorem F8(ha:at_<e.length){x:El}(hx:e[at_]? =some x):(cZ e at_ left r b)[at_]? =some (x.more e left r):=by
 rw [cZ];exact qP (by rw [List.getElem?_append_left ha,hx])
theorem CL{i:Nat}(hi:i<e.length)(hne:i≠at_):(cZ e at_ left r b)[i]? =e[i]? :=by
 rw [cZ,l9 (fun h=>hne h.symm),List.getElem?_append_left hi]
theorem gM{i:Nat}{x:El}(hx:e[i]? =some x):(cZ e at_ left r b)[i]? =some (if i=at_ then x.more e left r else x):=by
 have hi:=(List.getElem?_eq_some_iff.1 hx).1;by_cases h:i=at_
 ·subst h;rw [if_pos rfl];exact F8 hi hx
 ·rw [if_neg h,CL hi h,hx]
theorem mH{i:Nat}{y:El}(ha:at_<e.length)(h:(cZ e at_ left r b)[i]? =some y):(i=e.length∧y=⟨r,b,false,[],[]⟩)∨∃x,e[i]? =some x∧y=if i=at_ then x.more e left r else x:=by
 have hi:=(List.getElem?_eq_some_iff.1 h).1;rw [fa]at hi;by_cases hn:i=e.length
 ·subst hn;rw [j9 ha]at h;exact .inl ⟨rfl,(Option.some.inj h).symm⟩
 ·obtain⟨x,hx⟩:∃x,e[i]? =some x:=⟨_,List.getElem?_eq_getElem ai⟩;rw [gM hx]at h;exact .inr ⟨x,hx,(Option.some.inj h).symm⟩
theorem Cu{x:El}{c:Nat}(h:c∈(x.more e left r).left∨c∈(x.more e left r).right):c=e.length∨c∈x.left∨c∈x.right:=by
 unfold El.more at h;split at h
 ·rcases h with h|h
  ·rcases tD.1 h with h|h
   ·exact .inl h
   ·exact .inr (.inl h)
  ·exact .inr (.inr h)
 ·rcases h with h|h
  ·exact .inr (.inl h)
  ·rcases tD.1 h with h|h
   ·exact .inl h
   ·exact .inr (.inr h)
theorem nq(h:Down e)(ha:at_<e.length):Down (cZ e at_ left r b):=by
 intro i y hy c hc;rw [fa];rcases mH ha hy with⟨_,rfl⟩|⟨x,hx,rfl⟩
 ·simp at hc
 ·have hi:=(List.getElem?_eq_some_iff.1 hx).1;have hd:=h i x hx;split at hc
  ·rcases Cu hc with rfl|hc
   ·omega
   ·have:=hd c hc;omega
  ·have:=hd c hc;omega
theorem nG(h:Down e)(ha:at_<e.length):aY (cZ e at_ left r b) e.length=[e.length]:=by
 rw [dG (nq h ha) (j9 ha)];rfl
theorem pk{f:Nat→Bool}{n:Nat}{l:List Nat}{g:Nat→List Nat}(hg:g n=[]):(kz f n l).flatMap g=l.flatMap g:=by
 obtain⟨a,b,h1,h2,_⟩:=kf f n l;rw [h2,h1];simp [hg]
theorem qG(h:Down e)(ha:at_<e.length):∀i,i<e.length→(aY (cZ e at_ left r b) i).filter (fun j=>decide (j≠e.length))=aY e i:=by
 refine gJ h fun i x hx ih=>?_;have hi:=(List.getElem?_eq_some_iff.1 hx).1;have hd:=h i x hx;have hn:=nG (left:=left) (r:=r) (b:=b) h ha;rw [dG (nq h ha) (gM hx),dG h hx,List.filter_append,List.filter_cons,if_pos (show decide (i≠e.length)=true from decide_eq_true ai),List.filter_flatMap,List.filter_flatMap];have hnew:(fun j=>(aY (cZ e at_ left r b) j).filter (fun j=>decide (j≠e.length))) e.length=[]:=by simp [hn]
 have e1:(if i=at_ then x.more e left r else x).left.flatMap (fun j=>(aY (cZ e at_ left r b) j).filter (fun j=>decide (j≠e.length)))=x.left.flatMap (aY e):=by
  have:x.left.flatMap (fun j=>(aY (cZ e at_ left r b) j).filter (fun j=>decide (j≠e.length)))=x.left.flatMap (aY e):=eD fun c hc=>ih c (.inl hc) (hd c (.inl hc)).2;split
  ·unfold El.more;split
   ·show(tX e r x.left).flatMap _=_;rw [tX,pk hnew,this]
   ·exact this
  ·exact this
 have e2:(if i=at_ then x.more e left r else x).right.flatMap (fun j=>(aY (cZ e at_ left r b) j).filter (fun j=>decide (j≠e.length)))=x.right.flatMap (aY e):=by
  have:x.right.flatMap (fun j=>(aY (cZ e at_ left r b) j).filter (fun j=>decide (j≠e.length)))=x.right.flatMap (aY e):=eD fun c hc=>ih c (.inr hc) (hd c (.inr hc)).2;split
  ·unfold El.more;split
   ·exact this
   ·show(tX e r x.right).flatMap _=_;rw [tX,pk hnew,this]
  ·exact this
 rw [e1,e2]
theorem ka{l:List Nat}{f g:Nat→List Nat}{a b:Nat}(h:∀x∈l,(f x).count a=(g x).count b):(l.flatMap f).count a=(l.flatMap g).count b:=by
 induction l with
 |nil=>rfl
 |cons x t ih=>rw [List.flatMap_cons,List.flatMap_cons,List.count_append,List.count_append,h x aL,ih fun y hy=>h y (by simp [hy])]
theorem kr{f:Nat→Bool}{n a:Nat}{l:List Nat}{g:Nat→List Nat}:((kz f n l).flatMap g).count a=(l.flatMap g).count a+(g n).count a:=by
 obtain⟨x,y,h1,h2,_⟩:=kf f n l;rw [h2,h1];simp [List.count_append];omega
theorem Af(h:Down e)(ha:at_<e.length):∀i,i<e.length→(aY (cZ e at_ left r b) i).count e.length=(aY e i).count at_:=by
 refine gJ h fun i x hx ih=>?_;have hi:=(List.getElem?_eq_some_iff.1 hx).1;have hd:=h i x hx;have hn:=nG (left:=left) (r:=r) (b:=b) h ha;rw [dG (nq h ha) (gM hx),dG h hx,List.count_append,List.count_append,List.count_cons,List.count_cons,if_neg (show¬(i==e.length)=true by rw [beq_iff_eq];omega)];have e1:=ka (l:=x.left) (f:=aY (cZ e at_ left r b)) (g:=aY e) (a:=e.length) (b:=at_) fun c hc=>ih c (.inl hc) (hd c (.inl hc)).2;have e2:=ka (l:=x.right) (f:=aY (cZ e at_ left r b)) (g:=aY e) (a:=e.length) (b:=at_) fun c hc=>ih c (.inr hc) (hd c (.inr hc)).2;have h1:List.count e.length (aY (cZ e at_ left r b) e.length)=1:=by rw [hn];simp
 by_cases hia:i=at_
 ·rw [if_pos (show(i==at_)=true by simp [hia])];simp only [if_pos hia];unfold El.more;split
  ·show List.count _ ((tX e r x.left).flatMap _)+(List.count _ (x.right.flatMap _)+_)=_;rw [tX,kr,h1,e1,e2];omega
  ·show List.count _ (x.left.flatMap _)+(List.count _ ((tX e r x.right).flatMap _)+_)=_;rw [tX,kr,h1,e1,e2]
 ·rw [if_neg (show¬(i==at_)=true by simpa using hia)];simp only [if_neg hia];rw [e1,e2]
end grow
theorem gR{at_ i:Nat}:(hF e at_)[i]? =(e[i]?).map fun x=>if i=at_ then{x with gone:=true}else x:=by
 unfold hF;by_cases h:at_=i
 ·subst h;cases hx:e[at_]? with
  |none=>rw [List.getElem?_modify,hx];rfl
  |some x=>rw [qP hx];simp
 ·rw [l9 h];cases e[i]? with
  |none=>rfl
  |some x=>simp only [Option.map_some];rw [if_neg (fun h'=>h h'.symm)]
theorem kQ{at_:Nat}:(hF e at_).length=e.length:=by simp [hF]
theorem oz{at_:Nat}:∀{k i:Nat},ig (hF e at_) k i=ig e k i
 |0,_=>rfl
 |k+1,i=>by
  rw [ig,ig,gR];cases e[i]? with
  |none=>rfl
  |some x=>
   simp only [Option.map_some];split<;>rw [eD (g:=ig e k) fun c _=>oz,eD (l:=x.right) (g:=ig e k) fun c _=>oz]
theorem uz{at_ i:Nat}:aY (hF e at_) i=aY e i:=by rw [aY,aY,kQ,oz]
theorem BW{at_:Nat}(h:Down e):Down (hF e at_):=by
 intro i y hy c hc;rw [gR]at hy;obtain⟨x,hx,rfl⟩:=Option.map_eq_some_iff.1 hy;rw [kQ];refine h i x hx c ?_;split at hc<;>exact hc
end
end Go.Fu
namespace Go.Fu
open Go.Fw Go.Pl
section
variable {a b c:aF}
theorem kh:cC a a=false:=by simp [cC,ud]
theorem ql(h:cC a b=true)(k:cC b c=true):cC a c=true:=by
 simp only [cC,Bool.or_eq_true,Bool.and_eq_true,decide_eq_true_eq]at h k⊢;rcases h with h|⟨h1,h2⟩<;>rcases k with k|⟨k1,k2⟩
 ·exact .inl (FC h k)
 ·exact .inl (k1▸h)
 ·exact .inl (h1▸k)
 ·exact .inr ⟨h1.trans k1,by omega⟩
theorem uN(h:cC a b=true):cC b a=false:=by
 cases hb:cC b a with
 |false=>rfl
 |true=>have:=ql h hb;rw [kh]at this;cases this
theorem Bd(ho:a.own=b.own)(h:cC a b=false)(k:cC b a=false):a=b:=by
 simp only [cC,Bool.or_eq_false_iff,Bool.and_eq_false_iff,decide_eq_false_iff_not]at h k;have hc:=H9 h.1 k.1;obtain⟨o,c,n⟩:=a;obtain⟨o',c',n'⟩:=b;simp only at ho hc h k;subst ho;subst hc;have:n=n':=by rcases h.2 with h|h<;>rcases k.2 with k|k<;>first|exact absurd rfl h|exact absurd rfl k|omega
 rw [this]
end
abbrev qN(e:List El)(l:List Nat):List aF:=l.map (nm e)
abbrev C2(l:List aF):Prop:=l.Pairwise fun x y=>cC x y=true
theorem Ae:∀{a b:List aF},C2 a→C2 b→(∀x,x∈a↔x∈b)→a=b
 | [],[],_,_,_=>rfl
 | [],y::b,_,_,h=>by have:=(h y).2 aL;simp at this
 |x::a,[],_,_,h=>by have:=(h x).1 aL;simp at this
 |x::a,y::b,ha,hb,h=>by
  have ha':=List.pairwise_cons.1 ha;have hb':=List.pairwise_cons.1 hb;have hxy:x=y:=by
   rcases List.mem_cons.1 ((h x).1 aL)with e|hx
   ·exact e
   ·rcases List.mem_cons.1 ((h y).2 aL)with e|hy
    ·exact e.symm
    ·have h1:=hb'.1 x hx;have h2:=ha'.1 y hy;rw [uN h1]at h2;cases h2
  subst hxy;rw [Ae ha'.2 hb'.2 fun z=>?_];constructor
  ·intro hz;rcases List.mem_cons.1 ((h z).1 (by simp [hz]))with rfl|hz'
   ·have:=ha'.1 z hz;rw [kh]at this;cases this
   ·exact hz'
  ·intro hz;rcases List.mem_cons.1 ((h z).2 (by simp [hz]))with rfl|hz'
   ·have:=hb'.1 z hz;rw [kh]at this;cases this
   ·exact hz'
def kX(e:List El)(r:aF):Option Nat:=e.findIdx? fun x=>decide (x.name=r)
section
variable {e:List El} {r:aF} {i:Nat}
theorem lD:kX e r=some i↔∃x,e[i]? =some x∧x.name=r∧∀j y,j<i→e[j]? =some y→y.name≠r:=by
 rw [kX,List.findIdx?_eq_some_iff_getElem];constructor
 ·rintro⟨h,h1,h2⟩;refine⟨_,List.getElem?_eq_getElem h,of_decide_eq_true h1,fun j y hj hy hn=>?_⟩;have:=h2 j hj;obtain⟨hl,rfl⟩:=List.getElem?_eq_some_iff.1 hy;simp [hn]at this
 ·rintro⟨x,hx,hn,h⟩;obtain⟨hl,rfl⟩:=List.getElem?_eq_some_iff.1 hx;refine⟨hl,decide_eq_true hn,fun j hj=>?_⟩;have:=h j _ hj (List.getElem?_eq_getElem ai);simpa using this
theorem iz:kX e r=none↔∀x∈e,x.name≠r:=by
 rw [kX,List.findIdx?_eq_none_iff];simp
theorem vR(h:kX e r=some i):i<e.length:=by
 obtain⟨x,hx,_⟩:=lD.1 h;exact(List.getElem?_eq_some_iff.1 hx).1
theorem HF(h:∃x∈e,x.name=r):∃i,kX e r=some i:=by
 cases hi:kX e r with
 |some i=>exact⟨i,rfl⟩
 |none=>obtain⟨x,hx,hn⟩:=h;exact absurd hn (iz.1 hi x hx)
theorem vN(h:kX e r=some i):∃x∈e,x.name=r:=by
 obtain⟨x,hx,hn,_⟩:=lD.1 h;exact⟨x,List.mem_of_getElem? hx,hn⟩
end
structure Good(e:List El):Prop where
 down:Down e
 root:∃x,e[0]? =some x∧x.name=aF.zero∧x.gone=true
 own:∀(i:Nat) (x:El),0<i→e[i]? =some x→x.name.own=false∧1≤x.name.n∧x.name.n≤2000
 uniq:(e.map El.name).Nodup
 perm:(bO e).Perm (List.range e.length)
 sort:∀(i:Nat) (x:El),e[i]? =some x→C2 (qN e x.left)∧C2 (qN e x.right)
section
variable {e:List El}
theorem B9:Good [El.root] where
 down:=fun i x hx c hc=>by
  cases i with
  |zero=>simp at hx;subst hx;simp [El.root]at hc
  |succ i=>simp at hx
 root:=⟨_,rfl,rfl,rfl⟩
 own:=fun i x hi hx=>by
  cases i with
  |zero=>omega
  |succ i=>simp at hx
 uniq:=by simp
 perm:=by
  have:bO [El.root]=[0]:=rfl;rw [this];exact List.Perm.refl _
 sort:=fun i x hx=>by
  cases i with
  |zero=>simp at hx;subst hx;simp [El.root]
  |succ i=>simp at hx
theorem Good.pos(h:Good e):0<e.length:=by obtain⟨x,hx,_⟩:=h.root;exact(List.getElem?_eq_some_iff.1 hx).1
theorem Good.inj(h:Good e){i j:Nat}{x y:El}(hx:e[i]? =some x)(hy:e[j]? =some y)(hn:x.name=y.name):i=j:=by
 have h1:(e.map El.name)[i]? =some x.name:=by simp [hx]
 have h2:(e.map El.name)[j]? =some x.name:=by simp [hy,hn]
 exact(List.getElem?_inj (by simpa using(List.getElem?_eq_some_iff.1 hx).1) h.uniq).1 (h1.trans h2.symm)
theorem Good.find(h:Good e){i:Nat}{x:El}(hx:e[i]? =some x):kX e x.name=some i:=by
 refine lD.2 ⟨x,hx,rfl,fun j y hj hy hn=>?_⟩;have:=h.inj hy hx hn;omega
theorem Good.Kr(h:Good e):kX e aF.zero=some 0:=by obtain⟨x,hx,hn,_⟩:=h.root;rw [←hn];exact h.find hx
theorem Good.zero(h:Good e){i:Nat}{x:El}(hx:e[i]? =some x):x.name=aF.zero↔i=0:=by
 obtain⟨z,hz,hn,_⟩:=h.root;constructor
 ·intro hh;exact h.inj hx hz (hh.trans hn.symm)
 ·rintro rfl;rw [hx]at hz;cases hz;exact hn
theorem Good.Ig(h:Good e){i:Nat}{x:El}(hx:e[i]? =some x):x.name.own=false:=by
 by_cases hi:i=0
 ·rw [(h.zero hx).2 hi];rfl
 ·exact(h.own i x ai hx).1
theorem Good.nodup(h:Good e):(bO e).Nodup:=h.perm.nodup_iff.2 List.nodup_range
theorem Good.mem(h:Good e){i:Nat}:i∈bO e↔i<e.length:=by rw [h.perm.mem_iff,List.mem_range]
theorem Good.once(h:Good e){i:Nat}(hi:i<e.length):(bO e).count i=1:=by
 have:=List.nodup_iff_count.1 h.nodup i;have h2:=List.count_pos_iff.2 (h.mem.2 hi);omega
theorem AD{a i:Nat}:nm (hF e a) i=nm e i:=by
 rw [nm,nm,gR];cases e[i]? with
 |none=>rfl
 |some x=>simp only [Option.map_some];split<;>rfl
theorem Good.gone(h:Good e)(a:Nat):Good (hF e a) where
 down:=BW h.down
 root:=by
  obtain⟨x,hx,h1,h2⟩:=h.root;refine⟨if 0=a then{x with gone:=true}else x,by rw [gR,hx];rfl,?_,?_⟩<;>split<;>first|exact h1|rfl|exact h2
 own:=fun i y hi hy=>by
  rw [gR]at hy;obtain⟨x,hx,rfl⟩:=Option.map_eq_some_iff.1 hy;have:=h.own i x hi hx;split<;>exact this
 uniq:=by
  have:(hF e a).map El.name=e.map El.name:=by
   refine List.ext_getElem? fun i=>?_;rw [List.getElem?_map,List.getElem?_map,gR];cases e[i]? with
   |none=>rfl
   |some x=>simp only [Option.map_some];split<;>rfl
  rw [this];exact h.uniq
 perm:=by rw [bO,uz,kQ];exact h.perm
 sort:=fun i y hy=>by
  rw [gR]at hy;obtain⟨x,hx,rfl⟩:=Option.map_eq_some_iff.1 hy;have hf:(nm (hF e a))=nm e:=funext fun i=>AD;rw [qN,qN,hf];have:=h.sort i x hx;split<;>exact this
theorem nu{a:Nat}{left:Bool}{r:aF}{b:UInt8}(ha:a<e.length){i:Nat}:nm (cZ e a left r b) i=if i=e.length then r else nm e i:=by
 by_cases hi:i=e.length
 ·subst hi;rw [if_pos rfl,fc (j9 ha)]
 ·rw [if_neg hi];by_cases hl:i<e.length
  ·obtain⟨x,hx⟩:∃x,e[i]? =some x:=⟨_,List.getElem?_eq_getElem hl⟩;rw [fc hx,fc (gM hx)];split
   ·unfold El.more;split<;>rfl
   ·rfl
  ·rw [nm,nm,List.getElem?_eq_none_iff.2 (by rw [fa];omega),List.getElem?_eq_none_iff.2 ai]
theorem Dm{r:aF}{l:List Nat}{n:Nat}{g g':Nat→aF}(hs:C2 (l.map g))(hg:∀y∈l,g' y=g y)(hn:g' n=r)(hne:∀y∈l,g y≠r)(ho:∀y∈l,(g y).own=r.own):C2 ((kz (fun y=>cC r (g y)) n l).map g'):=by
 obtain⟨a,b,h1,h2,h3,h4⟩:=kf (fun y=>cC r (g y)) n l;have hmap:∀m:List Nat,(∀y∈m,y∈l)→m.map g'=m.map g:=fun m hm=>List.map_congr_left fun y hy=>hg y (hm y hy);have ha:∀y∈a,y∈l:=fun y hy=>by rw [h1];simp [hy]
 have hb:∀y∈b,y∈l:=fun y hy=>by rw [h1];simp [hy]
 rw [h2,List.map_append,List.map_cons,hn,hmap a ha,hmap b hb];rw [h1,List.map_append]at hs;obtain⟨s1,s2,s3⟩:=List.pairwise_append.1 hs;have hb':∀y∈b,cC r (g y)=true:=by
  cases b with
  |nil=>intro y hy;cases hy
  |cons z t=>
   have hz:=h4 z t rfl;intro y hy;rcases List.mem_cons.1 hy with rfl|hy
   ·exact hz
   ·exact ql hz ((List.pairwise_cons.1 s2).1 _ (List.mem_map_of_mem hy))
 refine List.pairwise_append.2 ⟨s1,List.pairwise_cons.2 ⟨fun x hx=>?_,s2⟩,fun x hx y hy=>?_⟩
 ·obtain⟨y,hy,rfl⟩:=List.mem_map.1 hx;exact hb' y hy
 ·rcases List.mem_cons.1 hy with rfl|hy
  ·obtain⟨z,hz,rfl⟩:=List.mem_map.1 hx;cases hzr:cC (g z) y with
   |true=>rfl
   |false=>exact absurd (Bd (ho z (ha z hz)) hzr (h3 z hz)) (hne z (ha z hz))
  ·exact s3 x hx y hy
theorem Fj{l m:List Nat}{n:Nat}(hf:l.filter (fun j=>decide (j≠n))=m)(hc:l.count n=1):l.Perm (n::m):=by
 refine List.perm_iff_count.2 fun a=>?_;by_cases h:a=n
 ·subst h;rw [List.count_cons_self,hc,←hf,List.count_eq_zero.2 aL]
 ·rw [List.count_cons_of_ne (fun h'=>h h'.symm),←hf,List.count_filter (by simpa using h)]
theorem Good.grow(h:Good e){a:Nat}(ha:a<e.length){left:Bool}{r:aF}{b:UInt8}(hr:kX e r=none)(ho:r.own=false∧1≤r.n∧r.n≤2000):Good (cZ e a left r b) where
 down:=nq h.down ha
 root:=by
  obtain⟨x,hx,h1,h2⟩:=h.root;refine⟨_,gM hx,?_,?_⟩<;>split<;>first|exact h1|exact h2|(unfold El.more;split<;>first|exact h1|exact h2)
 own:=fun i y hi hy=>by
  rcases mH ha hy with⟨_,rfl⟩|⟨x,hx,rfl⟩
  ·exact ho
  ·have:=h.own i x hi hx;split
   ·unfold El.more;split<;>exact this
   ·exact this
 uniq:=by
  have hm:(cZ e a left r b).map El.name=e.map El.name++[r]:=by
   refine List.ext_getElem? fun i=>?_;by_cases hi:i<e.length
   ·obtain⟨x,hx⟩:∃x,e[i]? =some x:=⟨_,List.getElem?_eq_getElem hi⟩;rw [List.getElem?_map,gM hx,List.getElem?_append_left (by simpa using hi),List.getElem?_map,hx];simp only [Option.map_some];split
    ·unfold El.more;split<;>rfl
    ·rfl
   ·by_cases hn:i=e.length
    ·subst hn;rw [List.getElem?_map,j9 ha,List.getElem?_append_right aL];simp
    ·rw [List.getElem?_eq_none_iff.2 (by rw [List.length_map,fa];omega),List.getElem?_eq_none_iff.2 (by simp;omega)]
  rw [hm,List.nodup_append];refine⟨h.uniq,by simp,fun x hx y hy=>?_⟩;simp at hy;subst hy;obtain⟨z,hz,rfl⟩:=List.mem_map.1 hx;exact iz.1 hr z hz
 perm:=by
  have hp:=Fj (qG (left:=left) (r:=r) (b:=b) h.down ha 0 h.pos) (by rw [Af h.down ha 0 h.pos];exact h.once ha);rw [fa,List.range_succ];exact hp.trans ((h.perm.cons e.length).trans (List.perm_append_singleton _ _).symm)
 sort:=fun i y hy=>by
  have hf:∀l:List Nat,(∀c∈l,c<e.length)→qN (cZ e a left r b) l=qN e l:=fun l hl=>List.map_congr_left fun c hc=>by rw [nu ha,if_neg (by have:=hl c hc;omega)]
  rcases mH ha hy with⟨_,rfl⟩|⟨x,hx,rfl⟩
  ·exact⟨List.Pairwise.nil,List.Pairwise.nil⟩
  ·have hd:=h.down i x hx;have hs:=h.sort i x hx;have h1:=hf x.left fun c hc=>(hd c (.inl hc)).2;have h2:=hf x.right fun c hc=>(hd c (.inr hc)).2;have hput:∀l:List Nat,C2 (qN e l)→(∀c∈l,c<e.length)→C2 (qN (cZ e a left r b) (tX e r l)):=fun l hs hl=>
    Dm hs (fun c hc=>by rw [nu ha,if_neg (by have:=hl c hc;omega)]) (by rw [nu ha,if_pos rfl])
     (fun c hc=>by
      obtain⟨z,hz⟩:∃z,e[c]? =some z:=⟨_,List.getElem?_eq_getElem (hl c hc)⟩;rw [fc hz];exact iz.1 hr z (List.mem_of_getElem? hz))
     (fun c hc=>by
      obtain⟨z,hz⟩:∃z,e[c]? =some z:=⟨_,List.getElem?_eq_getElem (hl c hc)⟩;rw [fc hz,ho.1];exact h.Ig hz)
   split
   ·unfold El.more;split
    ·exact⟨hput _ hs.1 fun c hc=>(hd c (.inl hc)).2,by show C2 (qN _ x.right);rw [h2];exact hs.2⟩
    ·exact⟨by show C2 (qN _ x.left);rw [h1];exact hs.1,hput _ hs.2 fun c hc=>(hd c (.inr hc)).2⟩
   ·rw [h1,h2];exact hs
end
def eV(e:List El)(i:Nat):Bool:=((e[i]?).map El.gone).getD true
def gA(e:List El)(i:Nat):UInt8:=((e[i]?).map El.byte).getD 0
def bf(e:List El):List Nat:=(bO e).filter fun i=> !eV e i
def bZ(e:List El):List UInt8:=(bf e).map (gA e)
def F5(e:List El):Nat→Nat→Nat
 |0,i=>i
 |k+1,i=>match e[i]? with
  |none=>i
  |some x=>match x.left with
   | []=>i
   |c::_=>F5 e k c
def xf(e:List El)(i:Nat):Nat:=F5 e e.length i
def jC(e:List El)(a:Nat):aF×Bool:=match((e[a]?).map El.right).getD []with
 | []=>(nm e a,false)
 |c::_=>(nm e (xf e c),true)
def iE(e:List El)(n:Int):Nat:=if n=0 then 0 else((bf e)[(n-1).toNat]?).getD 0
def c4(e:List El)(n:Int):aF×Bool×Bool:=if n<0∨((bf e).length:Int)<n then(aF.zero,false,false)else((jC e (iE e n)).1,(jC e (iE e n)).2,true)
section
variable {e:List El}
theorem eT{i:Nat}{x:El}(h:e[i]? =some x):eV e i=x.gone:=by rw [eV,h];rfl
theorem lE{i:Nat}{x:El}(h:e[i]? =some x):gA e i=x.byte:=by rw [gA,h];rfl
theorem jI(h:Down e){i:Nat}(hi:i∈bf e):i<e.length:=xn h (List.mem_filter.1 hi).1
theorem jT{i:Nat}(hi:i∈bf e):eV e i=false:=by have:=(List.mem_filter.1 hi).2;simpa using this
theorem Good.sR(h:Good e):(bf e).Nodup:=List.Nodup.sublist List.filter_sublist h.nodup
theorem Good.xJ(h:Good e){i:Nat}{x:El}(hx:e[i]? =some x):i∈bf e↔x.gone=false:=by
 rw [bf,List.mem_filter,h.mem,eT hx];have:=(List.getElem?_eq_some_iff.1 hx).1;simp [this]
theorem Good.DF(h:Good e){i:Nat}(hi:i∈bf e):0<i:=by
 have hg:=jT hi;obtain⟨x,hx,_,hxg⟩:=h.root;by_cases h0:i=0
 ·subst h0;rw [eT hx,hxg]at hg;cases hg
 ·omega
theorem Good.jn(h:Good e):(bf e).length=e.countP fun x=> !x.gone:=by
 have h1:(bf e).Perm ((List.range e.length).filter fun i=> !eV e i):=h.perm.filter _;rw [h1.length_eq];have key:∀(l:List El),((List.range l.length).filter fun i=> !eV l i).length=l.countP fun x=> !x.gone:=by
  intro l;rw [←List.countP_eq_length_filter];have:l.map (fun x=> !x.gone)=(List.range l.length).map fun i=> !eV l i:=by
   refine List.ext_getElem? fun i=>?_;rw [List.getElem?_map,List.getElem?_map];by_cases hi:i<l.length
   ·rw [List.getElem?_eq_getElem hi,List.getElem?_range hi];simp only [Option.map_some];rw [eT (List.getElem?_eq_getElem hi)]
   ·rw [List.getElem?_eq_none_iff.2 ai,List.getElem?_eq_none_iff.2 (by simp;omega)];rfl
  have h2:=congrArg (List.countP id) this;rw [List.countP_map,List.countP_map]at h2;exact h2.symm
 exact key e
theorem DG(h:Down e){i:Nat}{x:El}(hx:e[i]? =some x):xf e i=match x.left with| []=>i|c::_=>xf e c:=by
 have key:∀k k' i,e.length≤k+i→e.length≤k'+i→F5 e k i=F5 e k' i:=by
  intro k;induction k with
  |zero=>
   intro k' i h1 _;have:e[i]? =none:=List.getElem?_eq_none_iff.2 ai;cases k'<;>simp [F5,this]
  |succ k ih=>
   intro k' i h1 h2;cases k' with
   |zero=>
    have:e[i]? =none:=List.getElem?_eq_none_iff.2 ai;simp [F5,this]
   |succ k'=>
    rw [F5,F5];cases hx:e[i]? with
    |none=>rfl
    |some x=>
     cases hl:x.left with
     |nil=>simp [hl]
     |cons c r=>
      have:=h i x hx c (.inl (by simp [hl]));simp only [hl];exact ih k' c ai ai
 have hi:=(List.getElem?_eq_some_iff.1 hx).1;obtain⟨k,hk⟩:∃k,e.length=k+1:=⟨e.length-1,by omega⟩;rw [xf,hk,F5,hx];cases hl:x.left with
 |nil=>simp only [hl]
 |cons c r=>
  have:=h i x hx c (.inl (by simp [hl]));simp only [hl];exact key k e.length c ai ai
theorem Ge(h:Down e):∀i,i<e.length→∃l,aY e i=xf e i::l:=by
 refine gJ h fun i x hx ih=>?_;rw [dG h hx,DG h hx];cases hl:x.left with
 |nil=>exact⟨_,rfl⟩
 |cons c r=>
  obtain⟨l,hl'⟩:=ih c (.inl (by simp [hl])) (h i x hx c (.inl (by simp [hl]))).2;refine⟨l++r.flatMap (aY e)++i::x.right.flatMap (aY e),?_⟩;simp only [List.flatMap_cons,hl'];simp
def zB(a b:Nat)(l:List Nat):Prop:=∀x y,l=x++a::y→∃z,y=b::z
theorem zB.app{a b:Nat}{l m:List Nat}(hl:zB a b l)(hm:zB a b m):zB a b (l++m):=by
 intro x y he;rcases List.append_eq_append_iff.1 he with⟨t,h1,h2⟩|⟨t,h1,h2⟩
 ·exact hm t y h2
 ·cases t with
  |nil=>exact hm [] y h2.symm
  |cons c t=>
   simp only [List.cons_append,List.cons.injEq]at h2;obtain⟨rfl,h2⟩:=h2;obtain⟨z,rfl⟩:=hl x t h1;exact⟨z++m,h2⟩
theorem zB.flat{a b:Nat}{l:List Nat}{f:Nat→List Nat}(h:∀c∈l,zB a b (f c)):zB a b (l.flatMap f):=by
 induction l with
 |nil=>intro x y he;cases x<;>cases he
 |cons c r ih=>rw [List.flatMap_cons];exact(h c aL).app (ih fun d hd=>h d (by simp [hd]))
theorem zB.one{a b c:Nat}(h:c≠a):zB a b [c]:=by
 intro x y he;cases x with
 |nil=>simp at he;exact absurd he.1 h
 |cons d x=>simp at he
theorem BZ(h:Down e){a c:Nat}{r:List Nat}(hr:((e[a]?).map El.right).getD []=c::r):∀i,i<e.length→zB a (xf e c) (aY e i):=by
 refine gJ h fun i x hx ih=>?_;have hd:=h i x hx;have f1:zB a (xf e c) (x.left.flatMap (aY e)):=zB.flat fun d hd'=>ih d (.inl hd') (hd d (.inl hd')).2;have f2:zB a (xf e c) (x.right.flatMap (aY e)):=zB.flat fun d hd'=>ih d (.inr hd') (hd d (.inr hd')).2;rw [dG h hx];refine f1.app ?_;by_cases hia:i=a
 ·subst hia;rw [hx]at hr;have hr:x.right=c::r:=hr;obtain⟨l,hl⟩:=Ge h c (hd c (.inr (by simp [hr]))).2;intro p y he;cases p with
  |nil=>
   simp only [List.nil_append,List.cons.injEq,true_and]at he;rw [hr,List.flatMap_cons,hl]at he;exact⟨l++r.flatMap (aY e),by rw [←he];rfl⟩
  |cons q p=>
   simp only [List.cons_append,List.cons.injEq]at he;exact f2 p y he.2
 ·exact(zB.one hia).app f2
end
end Go.Fu
