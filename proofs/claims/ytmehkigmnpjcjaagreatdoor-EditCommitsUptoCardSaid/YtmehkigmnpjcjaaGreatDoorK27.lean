/- Parts of a proof: what its last text leans on. No condition. -/
import Derived.Test.YtmehkigmnpjcjaaGreatDoorK26
set_option linter.unusedSimpArgs false
set_option linter.unusedVariables false
namespace Go.Fu
open Go.Pl Go.Fw
theorem tU{e:List El}{a n:Nat}(h:a+n≤(bf e).length):(qb e a n).length=n:=by
 simp [qb];omega
theorem eK{g:aF×Bool×Bool}{n:Nat}{s:List UInt8}:(fG g n s).length=s.length:=by simp [fG]
theorem sX(l:List dm)(k:Nat):eW (l.take k)≤eW l:=by
 have:eW l=eW (l.take k)+eW (l.drop k):=by
  unfold eW;rw [←List.sum_append,←List.map_append,List.take_append_drop]
 omega
theorem jR(l m:List dm):eW (l++m)=eW l+eW m:=by simp [eW]
theorem lj(l m:List dm):gz (l++m)=gz l+gz m:=by simp [gz]
structure sH(e:List El)(l:List dm)(s:wV):Prop where
 at_:s.at_=eW l
 kept:s.kept≤s.at_
 len:s.out.length=gz l
theorem AF{e:List El}:∀(m l:List dm) (s:wV),sH e l s→(∀x∈m,x.Cp)→eW (l++m)≤(bf e).length→sH e (l++m) (m.foldl (mn e) s)
 | [],l,s,h,_,_=>by simpa using h
 |x::m,l,s,h,hm,hb=>by
  have hb1:eW (l++[x])≤(bf e).length:=by
   have:l++x::m=(l++[x])++m:=by simp
   rw [this,jR]at hb;omega
  have h1:sH e (l++[x]) (mn e s x):=by
   have hx:=hm x aL;have ha:=h.at_;have hk:=h.kept;have hl:=h.len;rw [jR]at hb1;have o1:eW [x]=x.over:=by simp [eW]
   have c1:gz [x]=x.cost:=by simp [gz]
   unfold dm.Cp at hx;unfold mn;by_cases k1:x.kind=1
   ·rw [if_pos k1];refine⟨?_,Nat.le_refl _,?_⟩
    ·rw [jR,o1,dm.over,if_neg ai];show s.at_+x.n=_;omega
    ·rw [lj,c1,dm.cost,if_pos k1];exact hl
   ·rw [if_neg k1];by_cases k2:x.kind=2
    ·rw [if_pos k2];have hov:x.over=x.n:=by rw [dm.over,if_neg ai]
     have ht:x.text=[]:=by
      rcases hx with⟨_,_,h⟩|⟨h,_⟩
      ·exact h
      ·omega
     refine⟨?_,by show s.kept≤s.at_+x.n;omega,?_⟩
     ·rw [jR,o1,hov];show s.at_+x.n=_;omega
     ·rw [lj,c1,dm.cost,if_neg k1,ht];show(s.out++qb e s.at_ x.n).length=_;rw [List.length_append,tU (by rw [o1,hov]at hb1;omega),hl];rfl
    ·rw [if_neg k2];have h3:x.kind=3∧x.n=0:=by
      rcases hx with⟨h,_⟩|⟨h,h',_⟩
      ·omega
      ·exact⟨h,h'⟩
     refine⟨?_,hk,?_⟩
     ·rw [jR,o1,dm.over,if_pos h3.1];exact ha
     ·rw [lj,c1,dm.cost,if_neg k1,h3.2];show(s.out++fG _ _ x.text).length=_;rw [List.length_append,eK,hl];omega
  have:=AF m (l++[x]) _ h1 (fun y hy=>hm y (by simp [hy])) (by simpa using hb);simpa using this
theorem Cy{e:List El}:sH e [] ⟨0,0,[]⟩:=⟨rfl,Nat.le_refl _,rfl⟩
def aU(e:List El)(b:List UInt8)(k:Nat):wV:=((cj (bZ e) b).take k).foldl (mn e) ⟨0,0,[]⟩
theorem qj(e:List El)(b:List UInt8)(k:Nat):sH e ((cj (bZ e) b).take k) (aU e b k):=by
 have h:=AF (e:=e) ((cj (bZ e) b).take k) [] ⟨0,0,[]⟩ Cy (fun x hx=>oM _ _ x (List.mem_of_mem_take hx)) (by
  rw [List.nil_append];have h1:=sX (cj (bZ e) b) k;rw [qV]at h1;simpa [bZ]using h1)
 rw [List.nil_append]at h;exact h
theorem lR{e:List El}{b:List UInt8}{k:Nat}{x:dm}(h:(cj (bZ e) b)[k]? =some x):aU e b (k+1)=mn e (aU e b k) x:=by
 unfold aU;rw [Go.Pl.take_succ h,List.foldl_append];rfl
theorem uZ{e:List El}{b:List UInt8}:(aU e b (cj (bZ e) b).length).out=Al e b:=by
 unfold aU Al;rw [List.take_length]
theorem sP{e:List El}{b:List UInt8}{k:Nat}{x:dm}(h:(cj (bZ e) b)[k]? =some x):(aU e b k).at_+x.over≤(bf e).length:=by
 have h1:=(qj e b k).at_;have h2:=sX (cj (bZ e) b) (k+1);rw [qV,Go.Pl.take_succ h,jR]at h2;have h3:eW [x]=x.over:=by simp [eW]
 have h4:(bZ e).length=(bf e).length:=by simp [bZ]
 omega
def spread(l:List ky):List aD:=l.flatMap fun r=>List.replicate r.n r.c
structure qi(l:List ky)(ds:List aD):Prop where
 all:spread l=ds
 pos:∀r∈l,1≤r.n
 ne:∀(i:Nat) (r s:ky),l[i]? =some r→l[i+1]? =some s→r.c≠s.c
theorem qi.add{l:List ky}{ds:List aD}(h:qi l ds)(d:aD):qi (pU l d) (ds++[d]):=by
 unfold pU;by_cases hc:l.getLast?.map ky.c=some d
 ·rw [if_pos hc];obtain⟨r,hr,hd⟩:=Option.map_eq_some_iff.1 hc;rw [List.getLast?_eq_some_iff]at hr;obtain⟨ys,rfl⟩:=hr;have e:(ys++[r]).modify ((ys++[r]).length-1) (fun r=>(⟨r.c,r.n+1⟩:ky))=ys++[⟨r.c,r.n+1⟩]:=by
   apply List.ext_getElem?;intro i;rw [List.getElem?_modify,List.getElem?_append,List.getElem?_append];by_cases hi:i<ys.length
   ·rw [if_pos hi,if_pos hi];have:¬(ys++[r]).length-1=i:=by simp;omega
    cases ys[i]? with
    |none=>rfl
    |some z=>show some (if(ys++[r]).length-1=i then _ else z)=_;rw [if_neg this]
   ·rw [if_neg hi,if_neg hi];by_cases hj:i=ys.length
    ·subst hj;simp
    ·rw [List.getElem?_eq_none_iff.2 (by simp;omega),List.getElem?_eq_none_iff.2 (by simp;omega)];rfl
  rw [e];refine⟨?_,?_,?_⟩
  ·rw [←h.all];simp only [spread,List.flatMap_append,List.flatMap_cons,List.flatMap_nil,List.append_nil,List.append_assoc];rw [List.replicate_succ',hd]
  ·intro x hx;rcases List.mem_append.1 hx with hx|hx
   ·exact h.pos x (by simp [hx])
   ·simp at hx;subst hx;simp
  ·intro i x y hx hy;rw [List.getElem?_append]at hx hy;have h1:=h.ne i;by_cases hi:i+1<ys.length
   ·rw [if_pos hi]at hy;rw [if_pos ai]at hx;exact h1 x y (by rw [List.getElem?_append_left ai];exact hx) (by rw [List.getElem?_append_left hi];exact hy)
   ·rw [if_neg hi]at hy;have hil:i+1=ys.length:=by
     have:=(List.getElem?_eq_some_iff.1 hy).1;simp at this;omega
    rw [if_pos ai]at hx;rw [hil,Nat.sub_self]at hy;simp at hy;subst hy;exact h1 x r (by rw [List.getElem?_append_left ai];exact hx) (by rw [hil];simp)
 ·rw [if_neg hc];refine⟨?_,?_,?_⟩
  ·rw [←h.all];simp [spread]
  ·intro x hx;rcases List.mem_append.1 hx with hx|hx
   ·exact h.pos x hx
   ·simp at hx;subst hx;exact Nat.le_refl _
  ·intro i x y hx hy;rw [List.getElem?_append]at hx hy;by_cases hi:i+1<l.length
   ·rw [if_pos hi]at hy;rw [if_pos ai]at hx;exact h.ne i x y hx hy
   ·rw [if_neg hi]at hy;have hil:i+1=l.length:=by
     have:=(List.getElem?_eq_some_iff.1 hy).1;simp at this;omega
    rw [if_pos ai]at hx;rw [hil,Nat.sub_self]at hy;simp at hy;subst hy;intro hd;refine hc ?_;rw [List.getLast?_eq_getElem?,←hil,Nat.add_sub_cancel,hx];show some x.c=some d;rw [hd]
theorem uS{l:List ky}{ds:List aD}(h:qi l ds):∀(es:List aD),qi (es.foldl pU l) (ds++es)
 | []=>by simpa using h
 |d::es=>by
  have:=uS (h.add d) es;simpa using this
end Go.Fu
namespace Go.Fu
open Go.Pl Go.Fw
structure J6 where
 at_:Nat
 kept:Nat
 out:List ct
 run:Bool
end Go.Fu
namespace Go.Fu
open Go.Pl Go.Fw
def se(e:List El)(out:List ct):Prop:=∀(j:Nat) (x:ct),out[j]? =some x→dB e out j x=0
theorem se.zero{e:List El}{out:List ct}(h:se e out):cY e out out.length=0:=by
 by_cases h0:cY e out out.length=0
 ·exact h0
 ·obtain⟨j,x,_,hx,hw⟩:=ma h0;exact absurd (h j x hx) hw
structure J3(e:List El)(t:J6):Prop where
 right:se e t.out
 last:t.run=true→0<t.out.length∧ep t.out (t.out.length-1)=1
 kept:t.kept≤t.at_
end Go.Fu
namespace Go.Fu
open Go.Pl Go.Fw
def sd(y:El)(s:Bool):List Nat:=cond s y.left y.right
structure Kf(T:Tr)(id:aD)(t:J6)(f:List El)(W X0:List Nat)(a:Nat)(Z P0 M:List Nat)(A:Nat)(s:Bool):Prop where
 f_is:f=jm id t.out T.e t.out.length
 base:bO T.e=X0++a::Z
 a_is:a=iE T.e (t.kept:Int)
 order:bO f=P0++a::(M++Z)
 vis:(P0++a::M).filter (fun i=> !eV f i)=W
 rest:Z.filter (fun i=> !eV f i)=(bf T.e).drop t.at_
 right:∀z∈Z,∀x,T.e[z]? =some x→∃y,f[z]? =some y∧y.right=x.right
 left:∀z∈Z.tail,∀x,T.e[z]? =some x→∃y,f[z]? =some y∧y.left=x.left
 gapA:(jC T.e a).2=s∧kX T.e (jC T.e a).1=some A∧(jC T.e a).1.own=false
 where_:(s=false∧A=a)∨(s=true∧∃Y,Z=A::Y)
 gap:∃y,f[A]? =some y∧(∀c∈sd y s,∃j:Int,nm f c=⟨false,id,j⟩∧j≤(t.out.length:Int))∧(s=false→y.right.flatMap (aY f)=M)
 run:t.run=true→∃M0 p y,M=M0++[p]∧p+1=f.length∧f[p]? =some y∧y.right=[]∧y.name=⟨false,id,(t.out.length:Int)⟩
section
variable {L:kR} {T:Tr} {id:aD} {t:J6} {f:List El} {W X0 Z P0 M:List Nat} {a A q:Nat} {s:Bool}
 (h:fI L T) (hid:id∉L.map (·.1)) (hI:J3 T.e t) (hl:t.out.length≤2000) (hA:Kf T id t f W X0 a Z P0 M A s)
include h hid hI hl hA
theorem Kf.eX:Good f:=by
 rw [hA.f_is];exact(ld h.eX h.built hid hl hI.right.zero t.out.length (Nat.le_refl _)).1
end
end Go.Fu
namespace Go.Fw
open Go.RowKit
def yn(V:World)(K:IntKind)(v:Value)(n w:Nat)(c:Nat→Nat→Int):Prop:=∃A cap,v= .slice (some A) n cap∧∀i,i<n→∃Ai cap',Mem V (A.add (i*1)) [.slice (some Ai) w cap']∧∀j,j<w→Mem V (Ai.add (j*1)) [.int K (c i j)]
theorem yn.aA{V V':World}{K:IntKind}{v:Value}{n w:Nat}{c:Nat→Nat→Int}{S:Nat→Prop}(h:yn V K v n w c)(hc:aE S V V')(hs:∀k,k<V.heap.size→¬S k):yn V' K v n w c:=by
 obtain⟨A,cap,e,h⟩:=h;refine⟨A,cap,e,fun i hi=>?_⟩;obtain⟨Ai,cap',h1,h2⟩:=h i hi;refine⟨Ai,cap',h1.aA hc (hs _ (h1.lt aL)),fun j hj=>(h2 j hj).aA hc (hs _ ((h2 j hj).lt aL))⟩
theorem yn.JF{V V':World}{K:IntKind}{v:Value}{n w:Nat}{c:Nat→Nat→Int}{S:Nat→Prop}(h:yn V K v n w c)(hc:aE S V V')(hs:∀k,S k→V.heap.size≤k):yn V' K v n w c:=h.aA hc fun k hk hS=>by have:=hs k hS;omega
def gK(n:Nat)(f:Nat→Value):List Value:=(List.range n).map f
theorem cD(n:Nat)(f:Nat→Value):(gK n f).length=n:=by simp [gK]
theorem pW{n i:Nat}{f:Nat→Value}(h:i<n):(gK n f)[i]? =some (f i):=by simp [gK,h]
def kT(f:Nat→Value)(i:Nat)(v:Value):Nat→Value:=fun k=>if k=i then v else f k
theorem iq{n i:Nat}{f:Nat→Value}{v:Value}:(gK n f).set i v=gK n (kT f i v):=by
 apply List.ext_getElem?;intro k;rw [List.getElem?_set];by_cases hk:i=k
 ·subst hk;rw [if_pos rfl];by_cases hi:i<n
  ·rw [if_pos (by rw [cD];exact hi),pW hi,kT,if_pos rfl]
  ·rw [if_neg (by rw [cD];exact hi),List.getElem?_eq_none_iff.2 (by rw [cD];omega)]
 ·rw [if_neg hk];by_cases hi:k<n
  ·rw [pW hi,pW hi,kT,if_neg (fun e=>hk e.symm)]
  ·rw [List.getElem?_eq_none_iff.2 (by rw [cD];omega),List.getElem?_eq_none_iff.2 (by rw [cD];omega)]
theorem zb{n:Nat}{v:Value}:List.replicate n v=gK n fun _=>v:=by
 apply List.ext_getElem?;intro k;by_cases hk:k<n
 ·rw [pW hk,List.getElem?_replicate,if_pos hk]
 ·rw [List.getElem?_eq_none_iff.2 (by simp;omega),List.getElem?_eq_none_iff.2 (by rw [cD];omega)]
theorem aK.uK{w:World}{b n i:Nat}{T:TypeId}{f:Nat→Value}(h:aK w b T (gK n f))(hi:i<n):Mem w ((⟨b,0,none⟩:Addr).add (i*1)) [f i]:=by
 rw [Nat.mul_one];exact h.mem.sub i fun j v hj=>by
  cases j with
  |zero=>simp at hj;subst hj;exact pW hi
  |succ j=>simp at hj
end Go.Fw
namespace Go.Fw
open Go.RowKit Go.Fu
theorem Y.slice3{P:Program}{n:NN}{fr:Fr}{w:World}{x lo hi mx:Operand}{t e ty:TypeId}{a:Addr}{m c k i d:Nat}{ki kj kl:IntKind}{zi zj zl:Int}(hT:P.underlying t=some (.slice e))(hx:ev fr x=some (.slice (some a) m c))(hlo:ev fr lo=some (.int ki zi))(hhi:ev fr hi=some (.int kj zj))(hmx:ev fr mx=some (.int kl zl))
  (hS:(P.info? e).map (·.size)=some k) (hi':zi=(i:Int)) (hj':zj=((i+d:Nat):Int)) (hl':zl=((i+d:Nat):Int)) (h1:i+d≤c) (h2:0<d):Yw P n fr (.slice t x (some lo) (some hi) (some mx)) ty w (.slice (some (a.add (i*k))) d d) w:=fun b o' ho _ ha=>by
 subst hi';subst hj';subst hl';have e1:(0:Int)≤(i:Int):=by omega
 have e2:(0:Int)≤((i+d:Nat):Int):=by omega
 have e3:i≤i+d:=by omega
 have e4:i+d-i=d:=by omega
 have e5:¬i+d=i:=by omega
 have e6:¬d=0:=by omega
 simp only [execOp,ho,ha.ev hx,ha.ev hlo,ha.ev hhi,ha.ev hmx,Option.map_some];have e7:((i:Int)+(d:Int)).toNat=i+d:=by omega
 have e8:(0:Int)≤(i:Int)+(d:Int):=by omega
 have e9:(i:Int)+(d:Int)≤(c:Int):=by omega
 have e10:max ((i:Int)+(d:Int)) 0=(i:Int)+(d:Int):=by omega
 simp [Instr.sliceAt,Instr.slice,run_underlying hT,Instr.sliceBounds,Instr.sliceBound,asIntOf,e1,e7,e8,e9,e10,e3,e4,e5,e6,b5 hS]
theorem Y.Iv{P:Program}{n:NN}{fr:Fr}{w:World}{ty:TypeId}{x y:Operand}{k:IntKind}{p q:Nat}{t t':TypeId}(hx:ev fr x=some (.int k (p:Int)))(hy:ev fr y=some (.int k (q:Int))):
  Yw P n fr (.call {callee:= .builtin .min,args:=#[x,y],argTypes:=#[t,t']}) ty w (.int k ((min p q:Nat):Int)) w:=fun a o' ho _ ha=>by
 simp [execOp,ho,resolve,invoke,builtin,ha.ev hx,ha.ev hy,Builtin.min_,Builtin.min2];split<;>omega
theorem yN{p:Nat}(h:p<32768):IntKind.i16.wrap (p:Int)=(p:Int):=by simp [IntKind.wrap,IntKind.bits,IntKind.signed];omega
theorem Y.IJ{P:Program}{n:NN}{fr:Fr}{w:World}{ty:TypeId}{x y:Operand}{p:Nat}{t t':TypeId}(hx:ev fr x=some (.int .i16 1))(hy:ev fr y=some (.int .i16 (p:Int)))(h:p<32000):Yw P n fr (.binOp .add t x y t') ty w (.int .i16 ((1+p:Nat):Int)) w:=by
 have:=Y.Dh (P:=P) (n:=n) (w:=w) (ty:=ty) (t:=t) (t':=t') hx hy;rwa [show(1:Int)+(p:Int)=((1+p:Nat):Int)by omega,yN ai]at this
theorem Js{p q B:Nat}(hp:p*(q+1)≤B):0≤(p:Int)*((q:Int)+1)∧(p:Int)*((q:Int)+1)≤B:=by
 rw [show(p:Int)*((q:Int)+1)=((p*(q+1):Nat):Int)by rw [Int.natCast_mul];rfl];omega
theorem Hb{p q B:Nat}(hp:(p+1)*(q+1)≤B):0≤((p:Int)+1)*((q:Int)+1)∧((p:Int)+1)*((q:Int)+1)≤B:=Js (p:=p+1) hp
theorem sV{i j N W:Nat}(hi:i<N)(hj:j<W):i*W+j<N*W:=by
 have h1:(i+1)*W≤N*W:=Nat.mul_le_mul_right W hi;rw [Nat.succ_mul]at h1;omega
theorem HT{i j i' j' W:Nat}(hj:j<W)(hj':j'<W)(h:i'*W+j'=i*W+j):i'=i∧j'=j:=by
 have h1:(i*W+j)/W=i:=Nat.div_eq_of_lt_le ai (by rw [Nat.succ_mul];omega);have h2:(i'*W+j')/W=i':=Nat.div_eq_of_lt_le ai (by rw [Nat.succ_mul];omega);have h3:i'=i:=by rw [←h1,←h2,h]
 subst h3;exact⟨rfl,by omega⟩
theorem aK.Gx{w:World}{B N W i j:Nat}{T:TypeId}{f:Nat→Value}(h:aK w B T (gK (N*W) f))(hi:i<N)(hj:j<W):Mem w (((⟨B,0,none⟩:Addr).add (i*W*1)).add (j*1)) [f (i*W+j)]:=by
 have:=h.uK (sV hi hj);rw [add_add,show i*W*1+j*1=(i*W+j)*1 by omega];exact this
def iX(a b:List UInt8)(f:Nat→Value)(i j:Nat):Prop:=∀i' j',i'≤a.length→j'≤b.length→(i<i'∨(i'=i∧j≤j'))→f (i'*(b.length+1)+j')= .int .i16 (iY (a.drop i') (b.drop j'):Int)
theorem iX.put{a b:List UInt8}{f:Nat→Value}{i j v:Nat}(h:iX a b f i (j+1))(hj:j≤b.length)(hv:v=iY (a.drop i) (b.drop j)):iX a b (kT f (i*(b.length+1)+j) (.int .i16 (v:Int))) i j:=by
 intro i' j' h1 h2 h3;unfold kT;by_cases e:i'*(b.length+1)+j'=i*(b.length+1)+j
 ·rw [if_pos e];obtain⟨rfl,rfl⟩:=HT ai ai e;rw [hv]
 ·rw [if_neg e];refine h i' j' h1 h2 ?_;rcases h3 with h3|⟨rfl,h3⟩
  ·exact .inl h3
  ·refine .inr ⟨rfl,?_⟩;rcases Nat.lt_or_ge j j' with h4|h4
   ·exact h4
   ·exact absurd (by rw [show j'=j by omega]) e
theorem iX.up{a b:List UInt8}{f:Nat→Value}{i:Nat}(h:iX a b f i 0):iX a b f i 0:=h
theorem iX.next{a b:List UInt8}{f:Nat→Value}{i:Nat}(h:iX a b f (i+1) 0):iX a b f i (b.length+1):=fun i' j' h1 h2 h3=>h i' j' h1 h2 (by
 rcases h3 with h3|⟨_,h3⟩
 ·rcases Nat.lt_or_ge (i+1) i' with h4|h4
  ·exact .inl h4
  ·exact .inr bB
 ·omega)
theorem drop_cons{l:List UInt8}{i:Nat}(h:i<l.length):l.drop i=l[i]::l.drop (i+1):=List.drop_eq_getElem_cons h
end Go.Fw
namespace Go.Proofs.YtmehkigmnpjcjaaGreatDoor
open Go.RowKit Go.Fw Go.Fu Go.Pl Go.Proofs.Tryz
theorem fA:(prog.info? 140).map (·.size)=some 1:=by kernel_rfl
theorem eN:(prog.info? 141).map (·.size)=some 1:=by kernel_rfl
theorem HI:lg prog 140 [.int .i16 0] 2:=by
 have h:(prog.info? 140).map (fun i=>(i.zero,i.size,i.bytes))=some (some (.int .i16 0),1,2):=by kernel_rfl
 obtain⟨i,hi,h⟩:=Option.map_eq_some_iff.1 h;injection h with h1 h2
 injection h2 with h2 h3
 exact⟨i,_,hi,h1,rfl,h2,h3⟩
theorem Ii:lg prog 141 [.slice none 0 0] 24:=by
 have h:(prog.info? 141).map (fun i=>(i.zero,i.size,i.bytes))=some (some (.slice none 0 0),1,24):=by kernel_rfl
 obtain⟨i,hi,h⟩:=Option.map_eq_some_iff.1 h;injection h with h1 h2
 injection h2 with h2 h3
 exact⟨i,_,hi,h1,rfl,h2,h3⟩
theorem rF{n:Nat}{v:Value}:(List.replicate n [v]).flatten=gK n fun _=>v:=by
 rw [←zb];induction n with
 |zero=>rfl
 |succ n ih=>rw [List.replicate_succ,List.flatten_cons,ih];rfl
abbrev BK(B W i:Nat):Value:= .slice (some ((⟨B,0,none⟩:Addr).add (i*W*1))) W W
set_option maxRecDepth 100000 in
set_option maxHeartbeats 4000000 in
theorem BB(a b:List UInt8)(w:World)(ha:a.length≤1000)(hb:b.length≤1000):Calls prog 55 #[.string (bs a),.string (bs b)] w (cB fun v w'=>yn w' .i16 v (a.length+1) (b.length+1) (fun i j=>(iY (a.drop i) (b.drop j):Int))∧Ext w w'):=by
 have hsa:=bT a;have hsb:=bT b;have hNW:((bs a).size+1)*((bs b).size+1)≤1002001:=Nat.le_trans (Nat.mul_le_mul (show(bs a).size+1≤1001 by omega) (show(bs b).size+1≤1001 by omega)) aw;have hNWi:=Hb hNW;refine ar 138 [4] [(0,.string (bs a)),(1,.string (bs b))] func55 rfl rfl rfl aL cz ?_;have hE:Ext w w:=aE.refl;refine CW.sr fun K1 hK1=>WL.a rfl<|WL.nil (hK1 _ _ ?_);clear hK1;refine CW.sr fun K2 hK2=>WL.m rfl<|WL.v (Y.aM underlying9 rfl)<|WL.v (Y.add rfl rfl bB)<|WL.a rfl<|WL.nil (hK2 _ _ ?_);clear hK2;refine CW.sr fun K3 hK3=>WL.m rfl<|WL.v (Y.aM underlying9 rfl)<|WL.v (Y.add rfl rfl bB)<|WL.m rfl<|WL.v (Y.mul rfl rfl bB)<|WL.st (St.xK (m:=((bs a).size+1)*((bs b).size+1)) underlying141 HI rfl rfl ai ai) aw fun v19 w1 hR1=>?_;obtain⟨B,rfl,hgB,hB,hx1⟩:=hR1;have hz1:=hx1.size;rw [rF]at hB;have hE:=hE.ae hx1;have hltB:=hB.lt;refine WL.a rfl<|WL.nil (hK3 _ _ ?_);clear hK3;refine CW.sr fun K4 hK4=>WL.m rfl<|WL.v (Y.aM underlying9 rfl)<|WL.v (Y.add rfl rfl bB)<|WL.st (St.xK (m:=((bs a).size+1)) underlying137 Ii rfl rfl ai ai) aw fun v23 w2 hR2=>?_;obtain⟨R,rfl,hgR,hR,hx2⟩:=hR2;have hz2:=hx2.size;rw [rF]at hR;have hE:=hE.ae hx2;have hB:=hB.ext hx2;have hRB:R≠B:=by omega
 refine WL.a rfl<|WL.nil (hK4 _ _ ?_);clear hK4;refine CW.seq fun K5 hK5=>CW.sr fun K6 hK6=>WL.m rfl<|WL.v (Y.aq underlying137 rfl)<|WL.m rfl<|WL.nil (hK6 _ _ ?_);clear hK6;refine CW.block ?_;refine CW.loop (X:=Nat) (fun x=>[(0,.string (bs a)),(1,.string (bs b)),(7,.slice (some ⟨R,0,none⟩) ((bs a).size+1) ((bs a).size+1)),(5,.int .i64 ((((bs b).size+1):Nat):Int)),(6,.slice (some ⟨B,0,none⟩) (((bs a).size+1)*((bs b).size+1)) (((bs a).size+1)*((bs b).size+1))),(25,.int .i64 ((((bs a).size+1):Nat):Int)),(26,.int .i64 (x:Int))]) (fun x w0=>x≤((bs a).size+1)∧(∃g,aK w0 R 141 (gK ((bs a).size+1) g)∧∀i,i<x→g i=BK B ((bs b).size+1) i)∧aK w0 B 140 (gK (((bs a).size+1)*((bs b).size+1)) fun _=>.int .i16 0)∧Ext w w0) (fun x=>((bs a).size+1)-x) 0 (by repeat (first|exact Fr.le.nil|refine Fr.le.cons rfl ?_|refine Fr.le.cons (by show some (Value.int .i64 _)=some (Value.int .i64 _);congr 2;dsimp only;omega) ?_)) ⟨Nat.zero_le _,⟨_,hR,fun i h=>by omega⟩,hB,hE⟩ ?_;intro x w3 hl3;obtain⟨hxm,⟨g,hR,hg⟩,hB,hE⟩:=hl3;have hltR:=hR.lt;have hxW:x*((bs b).size+1)≤((bs a).size+1)*((bs b).size+1):=Nat.mul_le_mul_right _ hxm;have hxWi:=Js (Nat.le_trans hxW hNW);have hx1W:x<((bs a).size+1)→(x+1)*((bs b).size+1)≤((bs a).size+1)*((bs b).size+1):=fun h=>Nat.mul_le_mul_right _ h;refine CW.sr fun K7 hK7=>WL.v (Y.lss rfl rfl)<|WL.nil (hK7 _ _ ?_);clear hK7;refine CW.seq fun K8 hK8=>?_;refine bp ?_ ?_<;>intro ht9
 ·refine CW.skip ?_;refine hK8 _ _ ?_;clear hK8;refine CW.seq fun K10 hK10=>?_;refine CW.block<|CW.sr fun K11 hK11=>WL.m rfl<|WL.a rfl<|WL.nil (hK11 _ _ ?_);clear hK11;have hx1W2:=hx1W ai;have hx1Wi:=Hb (Nat.le_trans hx1W2 hNW);have hx1Wj:0≤((x:Int)+1)*(((bs b).size+1:Nat):Int)∧((x:Int)+1)*(((bs b).size+1:Nat):Int)≤((1002001:Nat):Int):=hx1Wi;refine CW.region<|WL.m rfl<|WL.m rfl<|WL.m rfl<|WL.m rfl<|WL.m rfl<|WL.v (Y.mul rfl rfl bB)<|WL.m rfl<|WL.v (Y.add rfl rfl bB)<|WL.m rfl<|WL.v (Y.mul rfl rfl bB)<|WL.m rfl<|WL.v (Y.add rfl rfl bB) ?_;refine WL.m rfl<|WL.v (Y.mul rfl rfl bB)<|WL.v (Y.slice3 (i:=x*((bs b).size+1)) (d:=((bs b).size+1)) underlying141 rfl rfl rfl rfl fA (by first|(rw [Int.natCast_mul];done)|(rw [Int.natCast_mul];rfl)) (by first|(rw [←Nat.succ_mul,Int.natCast_mul];done)|(rw [←Nat.succ_mul,Int.natCast_mul];rfl)) (by first|(rw [←Nat.succ_mul,Int.natCast_mul];done)|(rw [←Nat.succ_mul,Int.natCast_mul];rfl)) (by rw [←Nat.succ_mul];exact hx1W ai) ai)<|WL.v (Y.af underlying137 rfl rfl eN ai)<|WL.lX (i:=x) rfl rfl rfl rfl rfl aG hR ((by rw [cD];omega)) (fun w4 hc4 hB4_=>?_);have hz4:=hc4.size;have hE:=hE.step hc4 (fun k h=>by omega);have hB:=hB.aA hc4 (fun h=>hRB h.symm);rw [iq]at hB4_;refine WL.nil (hK10 _ _ ?_);clear hK10;refine CW.region<|WL.v (Y.add rfl rfl bB)<|WL.m rfl<|WL.nil ?_;exact⟨x+1,(by show((bs a).size+1)-(x+1)<((bs a).size+1)-x;omega),(by repeat (first|exact Fr.le.nil|refine Fr.le.cons rfl ?_|refine Fr.le.cons (by show some (Value.int .i64 _)=some (Value.int .i64 _);congr 2;dsimp only;omega) ?_)),(by show x+1≤((bs a).size+1);omega),⟨_,hB4_,fun i h=>by unfold kT;by_cases e:i=x;(rw [if_pos e,e]);(rw [if_neg e];exact hg i ai)⟩,hB,hE⟩
 refine CW.exit ?_;refine hK5 _ _ ?_;clear hK5;refine CW.seq fun K12 hK12=>CW.sr fun K13 hK13=>WL.m rfl<|WL.v (Y.aM underlying9 rfl)<|WL.a rfl<|WL.nil (hK13 _ _ ?_);clear hK13;refine CW.block ?_;refine CW.loop (X:=Nat×(Nat→Value)) (fun x=>[(0,.string (bs a)),(1,.string (bs b)),(7,.slice (some ⟨R,0,none⟩) ((bs a).size+1) ((bs a).size+1)),(9,.int .i64 ((x.1:Int)-1))]) (fun x w0=>x.1≤((bs a).size+1)∧aK w0 R 141 (gK ((bs a).size+1) (BK B ((bs b).size+1)))∧aK w0 B 140 (gK (((bs a).size+1)*((bs b).size+1)) x.2)∧(x.1≤a.length→iX a b x.2 x.1 0)∧Ext w w0) (fun x=>x.1) ((bs a).size+1,fun _=>.int .i16 0) (by repeat (first|exact Fr.le.nil|refine Fr.le.cons rfl ?_|refine Fr.le.cons (by show some (Value.int .i64 _)=some (Value.int .i64 _);congr 2;dsimp only;omega) ?_)) ⟨Nat.le_refl _,by have e:gK ((bs a).size+1) g=gK ((bs a).size+1) (BK B ((bs b).size+1)):=List.map_congr_left fun i hi=>hg i (by have:=List.mem_range.1 hi;omega);rw [←e];exact hR,hB,(fun h=>by have h:(bs a).size+1≤a.length:=h;omega),hE⟩ ?_;intro x w5 hl5;obtain⟨x,f⟩:=x;dsimp only at hl5⊢;obtain⟨hxm,hR,hB,hC,hE⟩:=hl5;refine CW.seq fun K14 hK14=>CW.sr fun K15 hK15=>WL.m rfl<|WL.v (Y.geq rfl rfl)<|WL.nil (hK15 _ _ ?_);clear hK15;refine bp ?_ ?_<;>intro ht16
 ·refine CW.skip ?_;refine hK14 _ _ ?_;clear hK14;refine CW.seq fun K17 hK17=>?_;refine CW.block<|CW.seq fun K18 hK18=>?_;obtain⟨i,rfl⟩:∃i,x=i+1:=⟨x-1,by omega⟩;rw [show(((i+1:Nat):Int)-1)=(i:Int)by omega];refine CW.region<|WL.m rfl<|WL.v (Y.aM underlying9 rfl)<|WL.a rfl<|WL.nil (hK18 _ _ ?_);clear hK18;refine CW.block ?_;refine CW.loop (X:=Nat×(Nat→Value)) (fun x=>[(0,.string (bs a)),(1,.string (bs b)),(7,.slice (some ⟨R,0,none⟩) ((bs a).size+1) ((bs a).size+1)),(9,.int .i64 (i:Int)),(10,.int .i64 ((x.1:Int)-1))]) (fun x w0=>x.1≤((bs b).size+1)∧aK w0 R 141 (gK ((bs a).size+1) (BK B ((bs b).size+1)))∧aK w0 B 140 (gK (((bs a).size+1)*((bs b).size+1)) x.2)∧iX a b x.2 i x.1∧Ext w w0) (fun x=>x.1) ((bs b).size+1,f) (by repeat (first|exact Fr.le.nil|refine Fr.le.cons rfl ?_|refine Fr.le.cons (by show some (Value.int .i64 _)=some (Value.int .i64 _);congr 2;dsimp only;omega) ?_)) ⟨Nat.le_refl _,hR,hB,(by show iX a b f i ((bs b).size+1);rw [hsb];by_cases h:i+1≤a.length;exact(hC h).next;exact fun i1 j1 h1 h2 h3=>by omega),hE⟩ ?_;intro x w6 hl6;obtain⟨y,f⟩:=x;dsimp only at hl6⊢;obtain⟨hym,hR,hB,hD,hE⟩:=hl6;have hltB:=hB.lt;refine CW.seq fun K19 hK19=>CW.sr fun K20 hK20=>WL.m rfl<|WL.v (Y.geq rfl rfl)<|WL.nil (hK20 _ _ ?_);clear hK20;refine bp ?_ ?_<;>intro ht21
  ·refine CW.skip ?_;refine hK19 _ _ ?_;clear hK19;obtain⟨j,rfl⟩:∃j,y=j+1:=⟨y-1,by omega⟩;rw [show(((j+1:Nat):Int)-1)=(j:Int)by omega];refine CW.bK (X:=Nat→Value) (fun _=>[(0,.string (bs a)),(1,.string (bs b)),(7,.slice (some ⟨R,0,none⟩) ((bs a).size+1) ((bs a).size+1)),(9,.int .i64 (i:Int)),(10,.int .i64 (j:Int))]) (fun f2 w0=>aK w0 R 141 (gK ((bs a).size+1) (BK B ((bs b).size+1)))∧aK w0 B 140 (gK (((bs a).size+1)*((bs b).size+1)) f2)∧iX a b f2 i j∧Ext w w0) ?_ ?_
   ·refine CW.block ?_;refine CW.block<|CW.sr fun K23 hK23=>WL.m rfl<|WL.m rfl<|WL.v (Y.aM underlying9 rfl)<|WL.v (Y.eql rfl rfl)<|WL.a rfl<|WL.nil (hK23 _ _ ?_);clear hK23;refine bp ?_ ?_<;>intro ht24
    ·refine CW.region<|WL.m rfl<|WL.m rfl<|WL.v (Y.af underlying137 rfl rfl eN ai)<|WL.v (Y.ah underlying141 rfl (hR.uK ai).cell0 rfl)<|WL.m rfl<|WL.m rfl<|WL.v (Y.aM underlying9 rfl)<|WL.m rfl<|WL.v (Y.sub rfl rfl bB)<|WL.v (Y.D5 (r:=(((bs b).size-j:Nat):Int)) underlying3 underlying140 rfl (by rw [show((bs b).size:Int)-(j:Int)=(((bs b).size-j:Nat):Int)by omega];exact yN ai))<|WL.v (Y.af underlying141 rfl rfl fA ai)<|WL.lX (i:=i*((bs b).size+1)+j) rfl (by rw [add_add];congr 1;omega) rfl rfl rfl aG hB ((by rw [cD];exact sV ai ai)) (fun w7 hc7 hB7_=>?_);have hz7:=hc7.size;have hE:=hE.step hc7 (fun k h=>by omega);have hR:=hR.aA hc7 (fun h=>hRB h);have hB:aK w7 B 140 (gK (((bs a).size+1)*((bs b).size+1)) (kT f (i*((bs b).size+1)+j) (.int .i16 (((bs b).size-j:Nat):Int)))):=by rw [←iq];exact hB7_
     refine WL.nil ?_;exact⟨kT f (i*((bs b).size+1)+j) (.int .i16 (((bs b).size-j:Nat):Int)),(by repeat (first|exact Fr.le.nil|refine Fr.le.cons rfl ?_|refine Fr.le.cons (by show some (Value.int .i64 _)=some (Value.int .i64 _);congr 2;dsimp only;omega) ?_)),hR,hB,(by rw [hsb];exact hD.put ai (by rw [List.drop_of_length_le ai,rK,List.length_drop]<;>omega)),hE⟩
    refine CW.sr fun K25 hK25=>WL.m rfl<|WL.m rfl<|WL.v (Y.aM underlying9 rfl)<|WL.v (Y.eql rfl rfl)<|WL.a rfl<|WL.nil (hK25 _ _ ?_);clear hK25;refine bp ?_ ?_<;>intro ht26
    ·refine CW.region<|WL.m rfl<|WL.m rfl<|WL.v (Y.af underlying137 rfl rfl eN ai)<|WL.v (Y.ah underlying141 rfl (hR.uK ai).cell0 rfl)<|WL.m rfl<|WL.m rfl<|WL.v (Y.aM underlying9 rfl)<|WL.m rfl<|WL.v (Y.sub rfl rfl bB)<|WL.v (Y.D5 (r:=(((bs a).size-i:Nat):Int)) underlying3 underlying140 rfl (by rw [show((bs a).size:Int)-(i:Int)=(((bs a).size-i:Nat):Int)by omega];exact yN ai))<|WL.v (Y.af underlying141 rfl rfl fA ai)<|WL.lX (i:=i*((bs b).size+1)+j) rfl (by rw [add_add];congr 1;omega) rfl rfl rfl aG hB ((by rw [cD];exact sV ai ai)) (fun w8 hc8 hB8_=>?_);have hz8:=hc8.size;have hE:=hE.step hc8 (fun k h=>by omega);have hR:=hR.aA hc8 (fun h=>hRB h);have hB:aK w8 B 140 (gK (((bs a).size+1)*((bs b).size+1)) (kT f (i*((bs b).size+1)+j) (.int .i16 (((bs a).size-i:Nat):Int)))):=by rw [←iq];exact hB8_
     refine WL.nil ?_;exact⟨kT f (i*((bs b).size+1)+j) (.int .i16 (((bs a).size-i:Nat):Int)),(by repeat (first|exact Fr.le.nil|refine Fr.le.cons rfl ?_|refine Fr.le.cons (by show some (Value.int .i64 _)=some (Value.int .i64 _);congr 2;dsimp only;omega) ?_)),hR,hB,(by rw [hsb];exact hD.put ai (by rw [List.drop_of_length_le (l:=b) ai,pN,List.length_drop]<;>omega)),hE⟩
    refine CW.seq fun K27 hK27=>CW.quiet (fun wq=>Ext w6 wq) aG aG aE.drew<|QL.m rfl<|QL.m rfl<|QL.v (fun wq hq=>Y.cJ (i:=i) (s:=bs a) underlying9 rfl rfl ai)<|QL.m rfl<|QL.m rfl<|QL.v (fun wq hq=>Y.cJ (i:=j) (s:=bs b) underlying9 rfl rfl ai)<|QL.v (fun wq hq=>Y.eql rfl rfl)<|QL.a rfl<|QL.nil fun w9 hx9=>?_;have hz9:=hx9.size;have hE:=hE.ae hx9;refine hK27 _ _ ?_;clear hK27;refine bp ?_ ?_<;>intro ht28
    ·have hv11:f ((i+1)*((bs b).size+1)+(j+1))= .int .i16 (iY (a.drop (i+1)) (b.drop (j+1)):Int):=by rw [hsb];exact hD (i+1) (j+1) ai ai (.inl ai)
     have heq:a[i]'ai=b[j]'ai:=by
      have h9:((a[i]'ai).toNat:Int)=((b[j]'ai).toNat:Int):=by assumption
      exact UInt8.toNat_inj.1 ai
     refine CW.head 15 aG aG fun w10 hx10=>?_;skip;have hz10:=hx10.size;have hE:=hE.ae hx10;refine HL.val (Y.move rfl) aw<|HL.val (Y.move rfl) aw<|HL.val (Y.af underlying137 rfl rfl eN ai) aw<|HL.val (Y.ah underlying141 rfl ((hR.ext (hx9.ae hx10)).uK ai).cell0 rfl) aw<|HL.val (Y.move rfl) aw<|HL.val (Y.move rfl) aw<|HL.val (Y.move rfl) aw<|HL.val (Y.add rfl rfl bB) aw<|HL.val (Y.af underlying137 rfl rfl eN ai (i:=i+1)) aw<|HL.val (Y.ah underlying141 rfl ((hR.ext (hx9.ae hx10)).uK ai).cell0 rfl) aw<|HL.val (Y.move rfl) aw<|HL.val (Y.add rfl rfl bB) aw<|HL.val (Y.af underlying141 rfl rfl fA ai (i:=j+1)) aw ?_;refine HL.val (Y.ah underlying140 rfl (by have h9:=(hB.ext (hx9.ae hx10)).Gx (i:=i+1) (j:=j+1) ai ai;rw [hv11]at h9;exact h9.cell0) rfl) aw<|HL.val (Y.af underlying141 rfl rfl fA ai) aw<|HL.nil<|WL.lX (i:=i*((bs b).size+1)+j) rfl (by rw [add_add];congr 1;omega) rfl rfl rfl aG (hB.ext (hx9.ae hx10)) ((by rw [cD];exact sV ai ai)) (fun w11 hc11 hB11_=>?_);have hz11:=hc11.size;have hE:=hE.step hc11 (fun k h=>by omega);have hR:=hR.ext (hx9.ae hx10);have hR:=hR.aA hc11 (fun h=>hRB h);have hB:aK w11 B 140 (gK (((bs a).size+1)*((bs b).size+1)) (kT f (i*((bs b).size+1)+j) (.int .i16 ((iY (a.drop (i+1)) (b.drop (j+1)):Nat):Int)))):=by rw [←iq];exact hB11_
     refine WL.nil ?_;exact⟨kT f (i*((bs b).size+1)+j) (.int .i16 ((iY (a.drop (i+1)) (b.drop (j+1)):Nat):Int)),(by repeat (first|exact Fr.le.nil|refine Fr.le.cons rfl ?_|refine Fr.le.cons (by show some (Value.int .i64 _)=some (Value.int .i64 _);congr 2;dsimp only;omega) ?_)),hR,hB,(by rw [hsb];exact hD.put ai (by rw [drop_cons (l:=a) (i:=i) ai,drop_cons (l:=b) (i:=j) ai,lu,if_pos heq])),hE⟩
    have hv10:f ((i+1)*((bs b).size+1)+j)= .int .i16 (iY (a.drop (i+1)) (b.drop j):Int):=by rw [hsb];exact hD (i+1) j ai ai (.inl ai)
    have hv01:f (i*((bs b).size+1)+(j+1))= .int .i16 (iY (a.drop i) (b.drop (j+1)):Int):=by rw [hsb];exact hD i (j+1) ai ai (.inr ⟨rfl,by omega⟩)
    have heq:¬a[i]'ai=b[j]'ai:=fun h=>by
     have h9:¬((a[i]'ai).toNat:Int)=((b[j]'ai).toNat:Int):=by assumption
     exact h9 (by rw [h])
    refine CW.head 24 aG aG fun w12 hx12=>?_;skip;have hz12:=hx12.size;have hE:=hE.ae hx12;refine HL.val (Y.move rfl) aw<|HL.val (Y.move rfl) aw<|HL.val (Y.af underlying137 rfl rfl eN ai) aw<|HL.val (Y.ah underlying141 rfl ((hR.ext (hx9.ae hx12)).uK ai).cell0 rfl) aw<|HL.val (Y.move rfl) aw<|HL.val (Y.move rfl) aw<|HL.val (Y.move rfl) aw<|HL.val (Y.add rfl rfl bB) aw<|HL.val (Y.af underlying137 rfl rfl eN ai (i:=i+1)) aw<|HL.val (Y.ah underlying141 rfl ((hR.ext (hx9.ae hx12)).uK ai).cell0 rfl) aw<|HL.val (Y.move rfl) aw<|HL.val (Y.af underlying141 rfl rfl fA ai) aw<|HL.val (Y.ah underlying140 rfl (by have h9:=(hB.ext (hx9.ae hx12)).Gx (i:=i+1) (j:=j) ai ai;rw [hv10]at h9;exact h9.cell0) rfl) aw ?_;refine HL.val (Y.move rfl) aw<|HL.val (Y.move rfl) aw<|HL.val (Y.af underlying137 rfl rfl eN ai) aw<|HL.val (Y.ah underlying141 rfl ((hR.ext (hx9.ae hx12)).uK ai).cell0 rfl) aw<|HL.val (Y.move rfl) aw<|HL.val (Y.add rfl rfl bB) aw<|HL.val (Y.af underlying141 rfl rfl fA ai (i:=j+1)) aw<|HL.val (Y.ah underlying140 rfl (by have h9:=(hB.ext (hx9.ae hx12)).Gx (i:=i) (j:=j+1) ai ai;rw [hv01]at h9;exact h9.cell0) rfl) aw<|HL.val (Y.Iv rfl rfl) aw<|HL.val (Y.IJ rfl rfl (by have h1:=qt (a.drop (i+1)) (b.drop j);rw [List.length_drop,List.length_drop]at h1;omega)) aw<|HL.val (Y.af underlying141 rfl rfl fA ai) aw<|HL.nil<|WL.lX (i:=i*((bs b).size+1)+j) rfl (by rw [add_add];congr 1;omega) rfl rfl rfl aG (hB.ext (hx9.ae hx12)) ((by rw [cD];exact sV ai ai)) (fun w13 hc13 hB13_=>?_);have hz13:=hc13.size;have hE:=hE.step hc13 (fun k h=>by omega);have hR:=hR.ext (hx9.ae hx12);have hR:=hR.aA hc13 (fun h=>hRB h);have hB:aK w13 B 140 (gK (((bs a).size+1)*((bs b).size+1)) (kT f (i*((bs b).size+1)+j) (.int .i16 ((1+min (iY (a.drop (i+1)) (b.drop j)) (iY (a.drop i) (b.drop (j+1))):Nat):Int)))):=by rw [←iq];exact hB13_
    refine WL.nil ?_;exact⟨kT f (i*((bs b).size+1)+j) (.int .i16 ((1+min (iY (a.drop (i+1)) (b.drop j)) (iY (a.drop i) (b.drop (j+1))):Nat):Int)),(by repeat (first|exact Fr.le.nil|refine Fr.le.cons rfl ?_|refine Fr.le.cons (by show some (Value.int .i64 _)=some (Value.int .i64 _);congr 2;dsimp only;omega) ?_)),hR,hB,(by rw [hsb];exact hD.put ai (by rw [drop_cons (l:=a) (i:=i) ai,drop_cons (l:=b) (i:=j) ai,lu,if_neg heq,←drop_cons (l:=a) (i:=i) ai,←drop_cons (l:=b) (i:=j) ai])),hE⟩
   rintro u w14 hj14;obtain⟨hR,hB,hD,hE⟩:=hj14;refine CW.region<|WL.m rfl<|WL.v (Y.sub rfl rfl bB)<|WL.a rfl<|WL.nil ?_;exact⟨(j,u),(by show j<j+1;omega),(by repeat (first|exact Fr.le.nil|refine Fr.le.cons rfl ?_|refine Fr.le.cons (by show some (Value.int .i64 _)=some (Value.int .i64 _);congr 2;dsimp only;omega) ?_)),(by show j≤(bs b).size+1;omega),hR,hB,hD,hE⟩
  refine CW.exit ?_;refine hK17 _ _ ?_;clear hK17;refine CW.region<|WL.m rfl<|WL.v (Y.sub rfl rfl bB)<|WL.a rfl<|WL.nil ?_;have hy0:y=0:=by omega
  subst hy0;exact⟨(i,f),(by show i<i+1;omega),(by repeat (first|exact Fr.le.nil|refine Fr.le.cons rfl ?_|refine Fr.le.cons (by show some (Value.int .i64 _)=some (Value.int .i64 _);congr 2;dsimp only;omega) ?_)),(by show i≤(bs a).size+1;omega),hR,hB,(fun _=>hD),hE⟩
 refine CW.exit ?_;refine hK12 _ _ ?_;clear hK12;refine CW.sr fun K29 hK29=>WL.m rfl<|WL.a rfl<|WL.nil (hK29 _ _ ?_);clear hK29;refine CW.ret ⟨_,rfl,?_⟩;have hx0:x=0:=by omega
 subst hx0;have hC:=hC (Nat.zero_le _);refine⟨⟨⟨R,0,none⟩,(bs a).size+1,by rw [hsa],fun i hi=>⟨(⟨B,0,none⟩:Addr).add (i*(b.length+1)*1),b.length+1,?_,fun j hj=>?_⟩⟩,hE⟩
 ·have h9:=hR.uK (i:=i) ai;unfold BK at h9;rw [hsb]at h9;exact h9
 ·have h9:=hB.Gx (i:=i) (j:=j) ai ai;rw [hsb,hC i j ai ai ai]at h9;exact h9
end Go.Proofs.YtmehkigmnpjcjaaGreatDoor
