/- Parts of a proof: what its last text leans on. No condition. -/
import Derived.ScopeJumps
import Derived.Defers
import Derived.Recover
import Derived.Lib.Bytealg
import Derived.Shelf.Small.Strs
import Derived.Shelf.Strings.Search1
import Derived.Test.YtmehkigmnpjcjaaGreatDoorK03
set_option linter.unusedSimpArgs false
set_option linter.unusedVariables false
namespace Go.Fw
open Go.RowKit
section
variable {P:Program} {n:NN} {Φ:Exit→Fr→World→Prop} {fr:Fr} {w:World}
theorem Y.nilCheck{x:Operand}{ty:TypeId}{a:Addr}(hx:ev fr x=some (.pointer (some a))):Yw P n fr (.nilCheck x) ty w (.pointer (some a)) w:=fun b o' ho _ ha=>by
 simp [execOp,ho,ha.ev hx]
theorem Y.wQ{x lo hi:Operand}{t e ty:TypeId}{a:Addr}{m c k i j:Nat}{ki kj:IntKind}(hT:P.underlying t=some (.slice e))(hx:ev fr x=some (.slice (some a) m c))(hlo:ev fr lo=some (.int ki (i:Int)))(hhi:ev fr hi=some (.int kj (j:Int)))
  (hS:(P.info? e).map (·.size)=some k) (h1:i≤j) (h2:j≤c):Yw P n fr (.slice t x (some lo) (some hi) none) ty w (.slice (some (if c=i then a else a.add (i*k))) (j-i) (c-i)) w:=fun b o' ho _ ha=>by
 have e1:(0:Int)≤(i:Int):=by omega
 have e2:(0:Int)≤(j:Int):=by omega
 simp [execOp,ho,ha.ev hx,ha.ev hlo,ha.ev hhi,Instr.sliceAt,Instr.slice,run_underlying hT,Instr.sliceBounds,Instr.sliceBound,asIntOf,e1,e2,h1,h2,b5 hS];split<;>rfl
variable {ops:Array Oper} {S:World→Prop} {fuel:Nat} {listed:Array Bool}
theorem RS.val{i d:Nat}{o:Op}{ty:TypeId}{pos:String}{aft:Array Edge}{v:Value}
  (hi:ops[i]? =some ⟨some d,o,ty,pos,aft,none⟩) (hy:Yw P n fr o ty w v w) (hd:d<n.1)
  (h:S w∧RH P ops S n Φ fuel (listed.setIfInBounds i true) ((d,v)::fr) w):RS P ops S n Φ fuel listed i fr w:=fun a ha=>by
 have hr:=hy a ⟨some d,o,ty,pos,aft,none⟩ rfl rfl ha;unfold wpOp;rw [hi];simp only [Region.wanted,if_true];refine .inl ?_;unfold Oper.wp;rw [hr];exact⟨h.1,h.2 _ (ha.put hd v)⟩
theorem RS.store{i:Nat}{t e:TypeId}{x y:Operand}{ty:TypeId}{pos:String}{aft:Array Edge}{v:Value}{g:Nat}{pre old post new:List Value}{A:Addr}
  (hi:ops[i]? =some ⟨none,.store t x y,ty,pos,aft,none⟩)
  (hx:ev fr x=some (.pointer (some A))) (hA:A=⟨g,pre.length,none⟩) (hy:ev fr y=some v) (hv:v.cells=new.toArray) (hS:(P.info? t).map (·.size)=some new.length)
  (hb:aK w g e (pre++old++post)) (hl:new.length=old.length) (h1:∀u∈new,u.oneCell'=true)
  (h:∀w',aE (·=g) w w'→aK w' g e (pre++new++post)→S w'∧RH P ops S n Φ fuel (listed.setIfInBounds i true) fr w'):RS P ops S n Φ fuel listed i fr w:=fun a ha=>by
 obtain⟨w',hst,hc,hb'⟩:=gU (P:=P) hb hl h1;have hrun:(execOp a.eval ⟨none,.store t x y,ty,pos,aft,none⟩).run P w= .ok .skip w':=by
  simp [execOp,ha.ev hx,ha.ev hy,Instr.storeAt,Instr.sureAddr,storeVar,b5 hS,hv,hA,hst]
 obtain⟨h1,h2⟩:=h w' hc hb';unfold wpOp;rw [hi];simp only [Region.wanted,if_true];refine .inl ?_;unfold Oper.wp;rw [hrun];exact⟨h1,h2 _ ha⟩
@[reducible] def AH(D:Fr→World→Prop)(S:List PanicEntry→World→Prop):Exit→Fr→World→Prop
 | .normal,fr,w=>D fr w
 | .ret,fr,w=>D fr w
 | .panic ch,_,w=>S ch w
 |_,_,_=>False
theorem pT{f:FuncId}{fn:Func}{c:Code}{args:List Value}{R:Value→World→Prop}{S:List PanicEntry→World→Prop}(m:Nat)(D:Fr→World→Prop)(fr0:Fr)
  (hf:P.funcs[f]? =some fn) (hb:fn.body=some c) (hm:fn.ntmps=m) (hr:∀a fr w,ju (m,[],none) a fr→D fr w→∃v,(results fn a.tmps).run P w= .ok v w∧R v w)
  (hsz:args.length≤m) (hargs:∀t v,fr0.get t=some v→args[t]? =some v)
  (h:CW P c (m,[],none) (AH D S) fr0 w):Calls P f args.toArray w (Hk R S):=by
 refine calls_of_wp hf hb ?_;have hrep:ju (m,[],none) {tmps:=args.toArray++Array.replicate (fn.ntmps-args.toArray.size) undef,defers:=[]} fr0:=by
  refine⟨by simp [hm];omega,rfl,fun t v hv=>?_⟩;have h1:=hargs t v hv;have hlt:t<args.length:=(List.getElem?_eq_some_iff.1 h1).1;simpa [Array.getElem?_append,hlt]using(List.getElem?_eq_some_iff.1 h1).2
 refine wp_mono ((CW.plain rfl).1 h _ hrep) ?_;rintro e a' w' ⟨fr',hf',hp⟩;cases e with
 |normal=>obtain⟨v,hv,hR⟩:=hr _ _ _ hf' hp;exact⟨hf'.defers,v,hv,hR⟩
 |ret=>obtain⟨v,hv,hR⟩:=hr _ _ _ hf' hp;exact⟨hf'.defers,v,hv,hR⟩
 |exit id=>exact hp
 |goto l=>exact hp
 |panic ch=>exact⟨hf'.defers,hp⟩
 |outgrown=>exact hp.elim
@[reducible] def C5(t m:Nat)(R:Value→World→Prop)(fr:Fr)(w:World):Prop:=∃a cs,fr.get t=some (.pointer (some a))∧Mem w a cs∧cs.length=m∧R (.agg cs.toArray) w
theorem Fv{fn:Func}{a:Act}{t m:Nat}{ty:TypeId}{d:TypeDesc}{R:Value→World→Prop}(hr:fn.results= #[.cell t ty])(hT:P.underlying ty=some d)(hd:iD d=false)(hS:(P.info? ty).map (·.size)=some m)
  {fr:Fr} {w:World} (ha:ju n a fr) (hD:C5 t m R fr w):∃v,(results fn a.tmps).run P w= .ok v w∧R v w:=by
 obtain⟨p,cs,hp,hm,hl,hR⟩:=hD;have h1:=l6 (P:=P) hT hd (by rw [hl];exact hS) hm;have e:=ha.get t _ hp;refine⟨_,?_,hR⟩;simp [results,hr,e,asAddr,h1]
theorem ri{f:FuncId}{fn:Func}{c:Code}{args:List Value}{R:Value→World→Prop}{S:List PanicEntry→World→Prop}(m t k:Nat)(fr0:Fr){ty:TypeId}{d:TypeDesc}
  (hf:P.funcs[f]? =some fn) (hb:fn.body=some c) (hm:fn.ntmps=m) (hr:fn.results= #[.cell t ty]) (hT:P.underlying ty=some d) (hd:iD d=false) (hS:(P.info? ty).map (·.size)=some k)
  (hsz:args.length≤m) (hargs:∀t v,fr0.get t=some v→args[t]? =some v)
  (h:CW P c (m,[],none) (AH (C5 t k R) S) fr0 w):Calls P f args.toArray w (Hk R S):=
 pT m _ fr0 hf hb hm (fun a fr w ha hD=>Fv hr hT hd hS ha hD) hsz hargs h
theorem gp{f:FuncId}{fn:Func}{c:Code}{args:List Value}{R:Value→World→Prop}(m t k:Nat)(fr0:Fr){ty:TypeId}{d:TypeDesc}
  (hf:P.funcs[f]? =some fn) (hb:fn.body=some c) (hm:fn.ntmps=m) (hr:fn.results= #[.cell t ty]) (hT:P.underlying ty=some d) (hd:iD d=false) (hS:(P.info? ty).map (·.size)=some k)
  (hsz:args.length≤m) (hargs:∀t v,fr0.get t=some v→args[t]? =some v)
  (h:CW P c (m,[],none) (AH (C5 t k R) (fun _ _=>False)) fr0 w):Calls P f args.toArray w (cB R):=
 (ri m t k fr0 hf hb hm hr hT hd hS hsz hargs h).mono fun e w' he=>by
  cases e with
  |returned v=>exact he
  |panicked ch=>exact he.elim
  |outgrown=>exact he.elim
def By(w:World)(v:Value)(bs:List UInt8):Prop:=∃A m c,v= .slice A m c∧bs.length=m∧m≤c∧c≤maxLen∧(0<m→∃a,A=some a∧Mem w a (az bs))∧(A=none→m=0)
theorem By.aA{T:Nat→Prop}{w w':World}{v:Value}{bs:List UInt8}(h:By w v bs)(hc:aE T w w')(hs:bs≠[]→∀g,v.ownBlock=some g→¬T g):By w' v bs:=by
 obtain⟨A,m,c,rfl,hl,hmc,hcm,hA,hn⟩:=h;refine⟨A,m,c,rfl,hl,hmc,hcm,fun h0=>?_,hn⟩;obtain⟨a,rfl,hm⟩:=hA h0;exact⟨a,rfl,hm.aA hc (hs (by rintro rfl;simp at hl;omega) _ rfl)⟩
theorem By.ext{w w':World}{v:Value}{bs:List UInt8}(h:By w v bs)(hc:Ext w w'):By w' v bs:=h.aA hc fun _ _ _ f=>f
theorem Own.by{e:TypeId}{v:Value}{bs:List UInt8}(h:Own w e 1 v (az bs)):By w v bs:=by
 obtain⟨A,m,c,rfl⟩:=h.lens;obtain⟨hm,hn,hl,hmc,hcm⟩:=h.mem A m c rfl;rw [aS]at hl;exact⟨A,m,c,rfl,by omega,hmc,hcm,hm,hn⟩
end
section
variable {P:Program} {n:NN} {fr:Fr} {w:World} {ty:TypeId}
theorem Y.I7{x y:Operand}{k:IntKind}{p q:Int}{t t':TypeId}{r:Int}(hx:ev fr x=some (.int k p))(hy:ev fr y=some (.int k q))(hr:k.wrap ((BitVec.ofInt k.bits p&&&BitVec.ofInt k.bits q).toNat:Int)=r):Yw P n fr (.binOp .and t x y t') ty w (.int k r) w:=
 Y.bin hx hy (by simp [eqGuard_at_int]) (by
  have e:binOp .and t (.int k p) (.int k q)=pure (.int k r):=by simp only [binOp,ne_eq,not_true_eq_false,if_false,Op.intBits,hr]
  rw [e];rfl)
theorem Y.shl{x y:Operand}{k k':IntKind}{p q r:Int}{t t':TypeId}(hx:ev fr x=some (.int k p))(hy:ev fr y=some (.int k' q))(hq:0≤q)(hr:k.wrap (p*(2^(min q.toNat k.bits)))=r):Yw P n fr (.binOp .shl t x y t') ty w (.int k r) w:=
 Y.bin hx hy (by simp [eqGuard_at_int]) (by simp [binOp,Op.shift,Int.not_lt.2 hq,hr])
end
theorem Y.BU{P:Program}{n:NN}{fr:Fr}{w:World}{x lo hi:Operand}{t e ty:TypeId}{a:Addr}{m c k i j:Nat}{ki kj:IntKind}{zi zj:Int}(hT:P.underlying t=some (.slice e))(hx:ev fr x=some (.slice (some a) m c))(hlo:ev fr lo=some (.int ki zi))(hhi:ev fr hi=some (.int kj zj))
  (hS:(P.info? e).map (·.size)=some k) (hi':zi=(i:Int)) (hj':zj=(j:Int)) (h1:i≤j) (h2:j≤c):Yw P n fr (.slice t x (some lo) (some hi) none) ty w (.slice (some (if c=i then a else a.add (i*k))) (j-i) (c-i)) w:=by
 subst hi';subst hj';exact Y.wQ hT hx hlo hhi hS h1 h2
end Go.Fw
namespace Go.Fw
open Go.RowKit
theorem By.I6{w:World}{a:Addr}{m c i j:Nat}{bs:List UInt8}(h:Mem w a (az bs))(hl:bs.length=m)(hc:m≤c)(h1:i<j)(h2:j≤m):Mem w (if c=i then a else a.add (i*1)) (az ((bs.drop i).take (j-i))):=by
 rw [if_neg ai,Nat.mul_one];refine h.sub i fun k v hk=>?_;rw [az,List.getElem?_map]at hk⊢;rw [List.getElem?_take]at hk;split at hk
 ·rwa [List.getElem?_drop]at hk
 ·cases hk
end Go.Fw
namespace Go.Pl
open Go.Fw
def cM(r:aF):Bool:=decide (r=aF.zero)
def fK(r:aF):Bool:=if r.own then decide (r.c=aD.zero)&&decide (0<r.n)else cM r||(decide (0<r.n)&&decide (r.n≤2000))
def bj(r:aF):Int:=if r.own then(if r.c≠aD.zero∨r.n<1 then 3 else 1)else if 1≤r.n∧r.n≤2000 then 2 else if r.n=0∧r.c=aD.zero then 0 else 3
def bX(a b:aD):Bool:=Op.bytesLess a.1 b.1
theorem fW:∀l:List UInt8,Op.bytesLess l l=false
 | []=>rfl
 |a::l=>by simp [Op.bytesLess,fW l]
theorem take_succ{α:Type}{l:List α}{i:Nat}{x:α}(h:l[i]? =some x):l.take (i+1)=l.take i++[x]:=by
 rw [List.take_add_one,h];rfl
theorem pE:∀{a b:List UInt8} {i:Nat} {x y:UInt8},a.take i=b.take i→a[i]? =some x→b[i]? =some y→x≠y→Op.bytesLess a b=decide (x<y)
 |x'::a,y'::b,0,x,y,_,hx,hy,hne=>by
  simp at hx hy;subst hx;subst hy;simp [Op.bytesLess,hne]
 |x'::a,y'::b,i+1,x,y,ht,hx,hy,hne=>by
  simp at hx hy;simp only [List.take_succ_cons,List.cons.injEq]at ht;obtain⟨rfl,ht⟩:=ht;have:=pE ht hx hy hne;have hlt:¬x'<x':=by simp
  simp [Op.bytesLess,this,hlt]
 | [],_,i,x,y,_,hx,_,_=>by simp at hx
 |_::_,[],i,x,y,_,_,hy,_=>by simp at hy
def ep(l:List ct)(k:Nat):Int:=((l[k]?).map (·.kind)).getD 0
def eR(l:List ct)(i:Int)(x:ct):Int:=
 if fK x.at_=false then 1
 else if x.kind=1∧(x.left=true∧cM x.at_=true)then 1
 else if x.kind=2∧(x.left=true∨(x.byte.toNat:Int)≠0∨cM x.at_=true)then 1
 else if x.kind≠1∧x.kind≠2 then 1
 else if x.at_.own=true∧(i≤x.at_.n∨ep l (x.at_.n-1).toNat≠1)then 5 else 0
def dn(l:List ct)(i:Int):Int:=if i<1∨(l.length:Int)<i then 9 else match l[(i-1).toNat]? with
 |some x=>eR l i x
 |none=>9
theorem qc{l:List ct}{i:Int}{x:ct}(h:¬(i<1∨(l.length:Int)<i))(hx:l[(i-1).toNat]? =some x):dn l i=eR l i x:=by
 rw [dn,if_neg h,hx]
theorem wK(r:aF):cM r=true↔r.own=false∧r.c=aD.zero∧r.n=0:=by
 obtain⟨o,c,n⟩:=r;simp [cM,aF.zero]
theorem Kb(r:aF):bj r=3↔fK r=false:=by
 obtain⟨o,c,n⟩:=r;cases o<;>by_cases h1:c=aD.zero<;>simp [bj,fK,cM,aF.zero,h1]<;>(repeat' split)<;>first|omega|(simp_all;done)|(simp_all;omega)
theorem Kh(r:aF):bj r=0↔cM r=true:=by
 obtain⟨o,c,n⟩:=r;cases o<;>by_cases h1:c=aD.zero<;>simp [bj,cM,aF.zero,h1]<;>(repeat' split)<;>first|omega|(simp_all;done)|(simp_all;omega)
theorem I8(r:aF):bj r=1↔r.own=true∧fK r=true:=by
 obtain⟨o,c,n⟩:=r;cases o<;>by_cases h1:c=aD.zero<;>simp [bj,fK,cM,aF.zero,h1]<;>(repeat' split)<;>first|omega|(simp_all;done)|(simp_all;omega)
theorem nU(l:List ct)(i:Int)(x:ct):eR l i x=
  if bj x.at_=3∨(¬(x.kind=1∧¬(bj x.at_=0∧x.left=true))∧¬(x.kind=2∧bj x.at_≠0∧x.left=false∧(x.byte.toNat:Int)=0))then 1
  else if bj x.at_=1∧(i≤x.at_.n∨ep l (x.at_.n-1).toNat≠1)then 5 else 0:=by
 have hl:x.left=true∨x.left=false:=by cases x.left<;>simp
 have ho:x.at_.own=true∨x.at_.own=false:=by cases x.at_.own<;>simp
 simp only [eR,ne_eq,Kb,Kh,I8];generalize(x.byte.toNat:Int)=b;generalize ep l (x.at_.n-1).toNat=q;generalize x.at_.n=n;generalize x.kind=k;by_cases h1:fK x.at_=false
 ·simp [h1]
 ·have h1':fK x.at_=true:=by simpa using h1
  rcases hl with hl|hl<;>rcases ho with ho|ho<;>by_cases h2:k=1<;>by_cases h3:k=2<;>by_cases h4:b=0<;>by_cases h5:cM x.at_=true<;>simp_all
def wH:List UInt8:=[65,66,67,68,69,70,71,72,73,74,75,76,77,78,79,80,81,82,83,84,85,86,87,88,89,90,97,98,99,100,101,102,103,104,105,106,107,108,109,110,111,112,113,114,115,116,117,118,119,120,121,122,48,49,50,51,52,53,54,55,56,57,45,95,46,35,64,126]
def rn(c:Int):Bool:=decide ((65≤c∧c≤90)∨(97≤c∧c≤122)∨(48≤c∧c≤57)∨c=45∨c=95∨c=46∨c=35∨c=64∨c=126)
def letter(c:UInt8):Bool:=rn (c.toNat:Int)
theorem zP:∀n,n<256→decide (Lib.indexByte wH (UInt8.ofNat n)<0)= !rn (n:Int):=by decide+kernel
theorem pK(c:UInt8):Lib.indexByte wH c<0↔letter c=false:=by
 have h:=zP c.toNat c.toNat_lt;rw [UInt8.ofNat_toNat]at h;unfold letter;rw [Bool.eq_iff_iff]at h;simp at h;rw [h]
def mi(l:List UInt8):Bool:=l.all letter&&(decide (1≤l.length)&&decide (l.length≤24))
theorem nE{l:List UInt8}{i:Nat}{x:UInt8}{p:UInt8→Bool}(h:(l.take i).all p=true)(hx:l[i]? =some x)(hp:p x=true):(l.take (i+1)).all p=true:=by
 rw [take_succ hx,List.all_append,h];simp [hp]
theorem yf{l:List UInt8}{i:Nat}{x:UInt8}(hx:l[i]? =some x)(hp:letter x=false):mi l=false:=by
 have:l.all letter=false:=by
  rw [Bool.eq_false_iff];intro h;rw [List.all_eq_true]at h;have:=h x (List.mem_of_getElem? hx);rw [hp]at this;cases this
 simp [mi,this]
theorem m6{l:List UInt8}{i:Nat}(h:(l.take i).all letter=true)(hi:l.length≤i):mi l=(decide (1≤l.length)&&decide (l.length≤24)):=by
 rw [List.take_of_length_le hi]at h;simp [mi,h]
theorem ku{s:ByteArray}{i:Nat}(h:i<s.size):s.toList[i]? =some s[i]:=by
 rw [ByteArray.toList_eq];show s.data.toList[i]? =some s.data[i];simp
def je:List aD→Bool
 | []=>true
 | [_]=>true
 |x::y::r=>bX x y&&je (y::r)
theorem iU:∀l:List aD,je l=true↔∀i x y,l[i]? =some x→l[i+1]? =some y→bX x y=true
 | []=>by simp [je]
 | [a]=>by simp [je]
 |a::b::r=>by
  rw [je,Bool.and_eq_true,iU (b::r)];constructor
  ·rintro⟨h1,h2⟩ i x y hx hy;cases i with
   |zero=>simp at hx hy;subst hx;subst hy;exact h1
   |succ i=>exact h2 i x y (by simpa using hx) (by simpa using hy)
  ·intro h;exact⟨h 0 a b rfl rfl,fun i x y hx hy=>h (i+1) x y (by simpa using hx) (by simpa using hy)⟩
def fO(l:List ct):Nat→Nat→Int
 |_,0=>0
 |i,n+1=>if dn l (i+1)≠0 then dn l (i+1)else fO l (i+1) n
def nQ(l:List ct):Int:=fO l 0 l.length
theorem jx(l:List ct):∀(k i n:Nat),(∀j,i≤j→j<i+k→dn l (j+1)=0)→k≤n→fO l i n=fO l (i+k) (n-k)
 |0,i,n,_,_=>rfl
 |k+1,i,n+1,h,hk=>by
  have h0:=h i (Nat.le_refl _) ai;rw [fO,if_neg (by simp [h0]),jx l k (i+1) n (fun j h1 h2=>h j ai ai) ai];congr 1
  ·omega
  ·omega
 |k+1,i,0,_,hk=>by omega
theorem u4{l:List ct}{i:Nat}(h:∀j:Nat,j<i→dn l (j+1)=0)(hi:i<l.length)(hne:dn l (i+1)≠0):nQ l=dn l (i+1):=by
 rw [nQ,jx l i 0 l.length (fun j _ hj=>h j ai) ai,Nat.zero_add];obtain⟨m,hm⟩:∃m,l.length-i=m+1:=⟨l.length-i-1,by omega⟩;rw [hm,fO,if_pos hne]
theorem oy{l:List ct}(h:∀j:Nat,j<l.length→dn l (j+1)=0):nQ l=0:=by
 rw [nQ,jx l l.length 0 l.length (fun j _ hj=>h j ai) ai,Nat.sub_self];rfl
def eY(c:bx):Int:=
 if 8<c.parents.length then 4 else if je c.parents=false then 7 else if mi c.author.toList=false then 11
 else if 200<c.note.size then 3 else if 2000<c.ops.length then 4 else nQ c.ops
end Go.Pl
namespace Go.Pl
open Go.Fw
def vi(n:Nat):List UInt8:=if n<128 then [UInt8.ofNat n]else UInt8.ofNat (n % 128+128)::vi (n/128)
termination_by n
theorem AJ{n:Nat}(h:n<128):vi n=[UInt8.ofNat n]:=by rw [vi,if_pos h]
theorem uQ{n:Nat}(h:¬n<128):vi n=UInt8.ofNat (n % 128+128)::vi (n/128):=by rw [vi,if_neg h]
theorem Fm:∀(k n:Nat),n<128^(k+1)→(vi n).length≤k+1
 |k,n,h=>by
  by_cases h1:n<128
  ·rw [AJ h1];simp
  ·rw [uQ h1];cases k with
   |zero=>simp at h;omega
   |succ k=>
    have h2:n/128<128^(k+1):=by
     rw [Nat.pow_succ]at h;exact Nat.div_lt_of_lt_mul (by rw [Nat.mul_comm];exact h)
    have:=Fm k (n/128) h2;simp only [List.length_cons];omega
theorem dS{n:Nat}(h:n<9223372036854775808):(vi n).length≤9:=Fm 8 n ai
def jL(n:Int):List UInt8:=if n<0 then []else vi n.toNat
theorem ke{n:Int}(h:n<9223372036854775808):(jL n).length≤9:=by
 unfold jL;split
 ·simp
 ·exact dS ai
theorem s9(n:Nat):jL (n:Int)=vi n:=by rw [jL,if_neg ai];rfl
def gL(s:List UInt8):List UInt8:=vi s.length++s
def fp(x:ct):Int:=(if x.kind=2 then 1 else 0)+(if x.left=true then 2 else 0)+(if x.at_.own=true then 4 else if cM x.at_=true then 0 else 8)
def wx(x:ct):List UInt8:=(if x.at_.own=true then jL (fp x)++jL x.at_.n else if cM x.at_=true then jL (fp x)else jL (fp x)++x.at_.c.1++jL x.at_.n)++(if x.kind=1 then [x.byte]else [])
theorem mX(x:ct):0≤fp x∧fp x≤11:=by
 unfold fp;split<;>split<;>split<;>(try split)<;>omega
theorem pP{x:ct}(h:x.at_.n<9223372036854775808):(wx x).length≤51:=by
 have h1:=ke (n:=fp x) (by have:=mX x;omega);have h2:=ke h;have h3:=x.at_.c.2;unfold wx;by_cases a:x.at_.own=true<;>by_cases b:cM x.at_=true<;>by_cases c:x.kind=1<;>simp only [a,b,c,if_true,if_false,List.length_append,List.length_cons,List.length_nil,h3]<;>(try simp only [List.length_append,List.length_cons,List.length_nil,h3,Bool.false_eq_true,if_false])<;>omega
def tT(c:bx):List UInt8:=vi c.parents.length++(c.parents.map (·.1)).flatten++gL c.author.toList++gL c.note.toList++vi c.ops.length++(c.ops.map wx).flatten
theorem iv{α β:Type}{l:List α}{f:α→List β}{i:Nat}{x:α}(h:l[i]? =some x):((l.take (i+1)).map f).flatten=((l.take i).map f).flatten++f x:=by
 rw [take_succ h];simp
theorem kg{α β:Type}{f:α→List β}{k:Nat}:∀{l:List α},(∀x∈l,(f x).length≤k)→(l.map f).flatten.length≤l.length*k
 | [],_=>by simp
 |x::l,h=>by
  have h1:=h x aL;have h2:=kg (f:=f) (k:=k) (l:=l) fun y hy=>h y (by simp [hy]);simp only [List.map_cons,List.flatten_cons,List.length_append,List.length_cons,Nat.succ_mul];omega
theorem mj(l:List ct):∀(n i:Nat),fO l i n=0→∀j,i≤j→j<i+n→dn l (j+1)=0
 |0,i,_,j,h1,h2=>by omega
 |n+1,i,h,j,h1,h2=>by
  rw [fO]at h;split at h
  ·rename_i hne;exact absurd h hne
  ·rename_i hne;simp only [ne_eq,Decidable.not_not]at hne;rcases Nat.eq_or_lt_of_le h1 with rfl|h1
   ·exact hne
   ·exact mj l n (i+1) h j ai ai
structure qF(c:bx):Prop where
 parents:c.parents.length≤8
 rising:je c.parents=true
 author:mi c.author.toList=true
 note:c.note.size≤200
 ops:c.ops.length≤2000
 right:∀j,j<c.ops.length→dn c.ops ((j:Int)+1)=0
theorem kM{c:bx}(h:eY c=0):qF c:=by
 unfold eY at h;split at h
 ·simp at h
 split at h
 ·simp at h
 split at h
 ·simp at h
 split at h
 ·simp at h
 split at h
 ·simp at h
 rename_i h1 h2 h3 h4 h5;exact⟨by omega,by simpa using h2,by simpa using h3,by omega,by omega,fun j hj=>mj c.ops _ 0 h j ai ai⟩
theorem AB{c:bx}(h:qF c):eY c=0:=by
 have h1:=h.parents;have h4:=h.note;have h5:=h.ops;rw [eY,if_neg ai,if_neg (by simp [h.rising]),if_neg (by simp [h.author]),if_neg ai,if_neg ai];exact oy h.right
theorem qF.name{c:bx}(h:qF c):c.author.size≤24:=by
 have:=h.author;simp only [mi,Bool.and_eq_true,decide_eq_true_eq,bR]at this;omega
theorem qF.right'{c:bx}(h:qF c){j:Nat}{x:ct}(hx:c.ops[j]? =some x):eR c.ops ((j:Int)+1) x=0:=by
 have hj:=(List.getElem?_eq_some_iff.1 hx).1;have:=h.right j hj;rwa [qc ai (by rw [show((j:Int)+1-1).toNat=j by omega];exact hx)]at this
theorem qL{l:List ct}{i:Int}{x:ct}(h:eR l i x=0):fK x.at_=true∧¬(x.kind=1∧x.left=true∧cM x.at_=true)∧¬(x.kind=2∧(x.left=true∨(x.byte.toNat:Int)≠0∨cM x.at_=true))∧(x.kind=1∨x.kind=2)∧(x.at_.own=true→x.at_.n<i∧ep l (x.at_.n-1).toNat=1):=by
 unfold eR at h;split at h
 ·simp at h
 split at h
 ·simp at h
 split at h
 ·simp at h
 split at h
 ·simp at h
 split at h
 ·simp at h
 rename_i h1 h2 h3 h4 h5;refine⟨by simpa using h1,h2,h3,by omega,fun ho=>?_⟩;have h6:=not_or.1 (fun e=>h5 ⟨ho,e⟩);exact⟨by omega,Decidable.not_not.1 h6.2⟩
theorem qF.n{c:bx}(h:qF c){x:ct}(hx:x∈c.ops):0≤x.at_.n∧x.at_.n≤2000:=by
 obtain⟨j,hj⟩:=List.mem_iff_getElem?.1 hx;have hjl:=(List.getElem?_eq_some_iff.1 hj).1;have ho:=h.ops;obtain⟨h1,_,_,_,h5⟩:=qL (h.right' hj);unfold fK at h1;split at h1
 ·rename_i hown;have:=(h5 hown).1;simp at h1;omega
 ·simp only [Bool.or_eq_true,wK,Bool.and_eq_true,decide_eq_true_eq]at h1;rcases h1 with h1|h1<;>omega
def gn:Nat→Nat→List UInt8→Except Int (Nat×Nat)
 |_,_,[]=>.error 8
 |i,s,x::r=>if 128≤x.toNat∧i+1=9 then .error 9 else if x.toNat=0∧0<i then .error 7 else
  if 128≤x.toNat then gn (i+1) (s+x.toNat % 128*128^i) r else .ok (s+x.toNat % 128*128^i,i+1)
def zf(bs:List UInt8)(at_:Nat):Except Int (Nat×Nat):=match gn 0 0 (bs.drop at_)with
 | .error e=>.error e
 | .ok (n,k)=>.ok (n,at_+k)
def Hh(bs:List UInt8)(at_:Nat):Except Int (List UInt8×Nat):=match zf bs at_ with
 | .error e=>.error e
 | .ok (n,nx)=>if 131072<n then .error 3 else if bs.length<nx+n then .error 8 else .ok ((bs.drop nx).take n,nx+n)
def gE(bs:List UInt8)(at_:Nat):Int:=match zf bs at_ with| .error e=>e| .ok _=>0
def gN(bs:List UInt8)(at_:Nat):Int:=match zf bs at_ with| .error _=>0| .ok (n,_)=>(n:Int)
end Go.Pl
namespace Go.Pl
end Go.Pl
namespace Go.Pl
open Go.Fw
def Iy(bs:List UInt8)(at_:Nat):Except Int (aD×Nat):=if h:at_+32≤bs.length then .ok (⟨(bs.drop at_).take 32,by rw [List.length_take,List.length_drop];omega⟩,at_+32)else .error 8
def JT(bs:List UInt8)(n at_:Nat):Except Int (aD×Nat):=if 8≤n then Iy bs at_ else .ok (aD.zero,at_)
def JN(bs:List UInt8)(n at_:Nat):Except Int (Nat×Nat):=if 4≤n then(match zf bs at_ with
 | .error e=>.error e
 | .ok (k,a)=>if k=0 then .error 7 else .ok (k,a))else .ok (0,at_)
def JS(bs:List UInt8)(n at_:Nat):Except Int (UInt8×Nat):=if n % 2=0 then(match bs[at_]? with
 |some b=>.ok (b,at_+1)
 |none=>.error 8)else .ok (0,at_)
def Ki(bs:List UInt8)(at_:Nat):Except Int (ct×Nat):=match zf bs at_ with
 | .error e=>.error e
 | .ok (n,a1)=>if 12≤n then .error 7 else match JT bs n a1 with
  | .error e=>.error e
  | .ok (d,a2)=>match JN bs n a2 with
   | .error e=>.error e
   | .ok (k,a3)=>match JS bs n a3 with
    | .error e=>.error e
    | .ok (b,a4)=>.ok (⟨if n % 2=0 then 1 else 2,decide (n/2 % 2=1),⟨decide (n/4=1),d,(k:Int)⟩,b⟩,a4)
def Eb{α:Type}(f:List UInt8→Nat→Except Int (α×Nat))(bs:List UInt8):Nat→Nat→Except Int (List α×Nat)
 |0,at_=>.ok ([],at_)
 |k+1,at_=>match f bs at_ with
  | .error e=>.error e
  | .ok (x,a)=>match Eb f bs k a with
   | .error e=>.error e
   | .ok (xs,a')=>.ok (x::xs,a')
def J4(b:List UInt8):Except Int (bx×Nat):=match zf b 0 with
 | .error e=>.error e
 | .ok (n,a1)=>if 8<n then .error 4 else match Eb Iy b n a1 with
  | .error e=>.error e
  | .ok (ps,a2)=>match Hh b a2 with
   | .error e=>.error e
   | .ok (au,a3)=>match Hh b a3 with
    | .error e=>.error e
    | .ok (no,a4)=>match zf b a4 with
     | .error e=>.error e
     | .ok (m,a5)=>if 2000<m then .error 4 else match Eb Ki b m a5 with
      | .error e=>.error e
      | .ok (ops,a6)=>.ok (⟨ps,bs au,bs no,ops⟩,a6)
def Jc(b:List UInt8):Except Int bx:=match J4 b with
 | .error e=>.error e
 | .ok (c,a)=>if a≠b.length then .error 7 else if eY c≠0 then .error (eY c)else .ok c
end Go.Pl
namespace Go.Proofs.YtmehkigmnpjcjaaGreatDoor
open Go.RowKit Go.Fw Go.Pl Go.Proofs.Tryz
theorem pG(r:aF)(w:World):Calls prog 94 #[dE r] w (cB fun v w'=>v= .bool (cM r)∧Ext w w'):=by
 refine ar 6 [2] [(0,dE r)] func94 rfl rfl rfl aL du ?_;refine CW.sr fun K1 hK1=>WL.box rfl rfl aw fun g1 w1 hx1 hg1 hB1=>?_;have hM1:=hB1.mem;refine WL.a rfl<|WL.nil (hK1 _ _ ?_);clear hK1;refine CW.sr fun K2 hK2=>WL.v (Y.load underlying62 rfl hM1 (aT _) rfl)<|WL.v (Y.eQ (iw _))<|WL.v (Y.oI rfl rfl)<|WL.a rfl<|WL.nil (hK2 _ _ ?_);clear hK2;refine CW.ret ⟨_,rfl,?_⟩;exact⟨rfl,hx1⟩
theorem Gy(r:aF)(w:World):Calls prog 93 #[dE r] w (cB fun v w'=>v= .bool (fK r)∧Ext w w'):=by
 refine ar 26 [2] [(0,dE r)] func93 rfl rfl rfl aL du ?_;refine CW.sr fun K1 hK1=>WL.box rfl rfl aw fun g1 w1 hx1 hg1 hB1=>?_;have hM1:=hB1.mem;refine WL.a rfl<|WL.nil (hK1 _ _ ?_);clear hK1;refine CW.seq fun K2 hK2=>?_;refine CW.block<|CW.sr fun K3 hK3=>WL.v (Y.fieldAddr fU rfl)<|WL.v (Y.ah underlying4 rfl hM1.yo rfl)<|WL.a rfl<|WL.nil (hK3 _ _ ?_);clear hK3;refine bp ?_ ?_<;>intro ht4
 ·refine CW.sr fun K5 hK5=>WL.v (Y.fieldAddr cw rfl)<|WL.v (Y.load underlying42 rfl hM1.mr (aj _) rfl)<|WL.v (Y.eQ (fw _))<|WL.v (Y.dD rfl rfl)<|WL.m rfl ?_;refine dO ?_ ?_<;>intro hg10
  ·refine WL.g rfl rfl (Y.fieldAddr bF rfl)<|WL.g rfl rfl (Y.ah underlying3 rfl hM1.iR rfl)<|WL.g rfl rfl (Y.gtr rfl rfl)<|WL.v (Y.pick rfl rfl)<|WL.a rfl<|WL.nil (hK5 _ _ ?_);clear hK5;refine CW.ret ⟨_,rfl,?_⟩;exact⟨by first|(simp_all [fK,cM,bj];done)|(simp_all [fK,cM,bj];omega),hx1⟩
  ·refine WL.o rfl rfl<|WL.o rfl rfl<|WL.o rfl rfl<|WL.v (Y.pick rfl rfl)<|WL.a rfl<|WL.nil (hK5 _ _ ?_);clear hK5;refine CW.ret ⟨_,rfl,?_⟩;exact⟨by first|(simp_all [fK,cM,bj];done)|(simp_all [fK,cM,bj];omega),hx1⟩
 refine CW.sr fun K6 hK6=>WL.v (Y.load underlying62 rfl hM1 (aT _) rfl)<|WL.call func94 rfl rfl rfl (pG _ _) aL ?_;rintro v w2 ⟨rfl,hx2⟩;have hM1:=hM1.ext hx2;refine WL.a rfl<|WL.nil (hK6 _ _ ?_);clear hK6;refine bp ?_ ?_<;>intro ht7
 ·refine CW.sr fun K8 hK8=>WL.a rfl<|WL.nil (hK8 _ _ ?_);clear hK8;refine CW.ret ⟨_,rfl,?_⟩;exact⟨by first|(simp_all [fK,cM,bj];done)|(simp_all [fK,cM,bj];omega),(hx1.ae hx2)⟩
 refine CW.skip ?_;refine hK2 _ _ ?_;clear hK2;refine CW.sr fun K9 hK9=>WL.v (Y.fieldAddr bF rfl)<|WL.v (Y.ah underlying3 rfl hM1.iR rfl)<|WL.v (Y.gtr rfl rfl)<|WL.m rfl ?_;refine dO ?_ ?_<;>intro hg21
 ·refine WL.g rfl rfl (Y.fieldAddr bF rfl)<|WL.g rfl rfl (Y.ah underlying3 rfl hM1.iR rfl)<|WL.g rfl rfl (Y.leq rfl rfl)<|WL.v (Y.pick rfl rfl)<|WL.a rfl<|WL.nil (hK9 _ _ ?_);clear hK9;refine CW.ret ⟨_,rfl,?_⟩;exact⟨by first|(simp_all [fK,cM,bj];done)|(simp_all [fK,cM,bj];omega),(hx1.ae hx2)⟩
 ·refine WL.o rfl rfl<|WL.o rfl rfl<|WL.o rfl rfl<|WL.v (Y.pick rfl rfl)<|WL.a rfl<|WL.nil (hK9 _ _ ?_);clear hK9;refine CW.ret ⟨_,rfl,?_⟩;exact⟨by first|(simp_all [fK,cM,bj];done)|(simp_all [fK,cM,bj];omega),(hx1.ae hx2)⟩
theorem oO(r:aF)(w:World):Calls prog 84 #[dE r] w (cB fun v w'=>v= .int .i64 (bj r)∧Ext w w'):=by
 refine ar 31 [2] [(0,dE r)] func84 rfl rfl rfl aL du ?_;refine CW.sr fun K1 hK1=>WL.box rfl rfl aw fun g1 w1 hx1 hg1 hB1=>?_;have hM1:=hB1.mem;refine WL.a rfl<|WL.nil (hK1 _ _ ?_);clear hK1;refine CW.seq fun K2 hK2=>CW.sr fun K3 hK3=>WL.v (Y.fieldAddr fU rfl)<|WL.v (Y.ah underlying4 rfl hM1.yo rfl)<|WL.nil (hK3 _ _ ?_);clear hK3;refine bp ?_ ?_<;>intro ht4
 ·refine CW.seq fun K5 hK5=>?_;refine CW.bS 13 (r.c≠aD.zero∨r.n<1) ?_ ?_
  ·refine CW.region<|WL.v (Y.fieldAddr cw rfl)<|WL.v (Y.load underlying42 rfl hM1.mr (aj _) rfl)<|WL.v (Y.eQ (fw _))<|WL.v (Y.jg rfl rfl)<|WL.m rfl ?_;refine dO ?_ ?_<;>intro hg9
   ·refine WL.o rfl rfl<|WL.o rfl rfl<|WL.o rfl rfl<|WL.v (Y.pick rfl rfl)<|WL.nil ⟨⟨_,rfl,?_⟩,rfl,Fr.cT⟩;exact aH
   ·refine WL.g rfl rfl (Y.fieldAddr bF rfl)<|WL.g rfl rfl (Y.ah underlying3 rfl hM1.iR rfl)<|WL.g rfl rfl (Y.lss rfl rfl)<|WL.v (Y.pick rfl rfl)<|WL.nil ⟨⟨_,rfl,?_⟩,rfl,Fr.cT⟩;exact aH
  refine bp ?_ ?_<;>intro ht6
  ·refine CW.sr fun K7 hK7=>WL.a rfl<|WL.nil (hK7 _ _ ?_);clear hK7;refine CW.ret ⟨_,rfl,?_⟩;exact⟨by simp only [bj];(repeat' split)<;>first|rfl|(simp_all;done)|(simp_all;omega),hx1⟩
  refine CW.skip ?_;refine hK5 _ _ ?_;clear hK5;refine CW.sr fun K8 hK8=>WL.a rfl<|WL.nil (hK8 _ _ ?_);clear hK8;refine CW.ret ⟨_,rfl,?_⟩;exact⟨by simp only [bj];(repeat' split)<;>first|rfl|(simp_all;done)|(simp_all;omega),hx1⟩
 refine CW.skip ?_;refine hK2 _ _ ?_;clear hK2;refine CW.seq fun K9 hK9=>?_;refine CW.bS 21 (1≤r.n∧r.n≤2000) ?_ ?_
 ·refine CW.region<|WL.v (Y.fieldAddr bF rfl)<|WL.v (Y.ah underlying3 rfl hM1.iR rfl)<|WL.v (Y.geq rfl rfl)<|WL.m rfl ?_;refine dO ?_ ?_<;>intro hg17
  ·refine WL.g rfl rfl (Y.fieldAddr bF rfl)<|WL.g rfl rfl (Y.ah underlying3 rfl hM1.iR rfl)<|WL.g rfl rfl (Y.leq rfl rfl)<|WL.v (Y.pick rfl rfl)<|WL.nil ⟨⟨_,rfl,?_⟩,rfl,Fr.cT⟩;exact aH
  ·refine WL.o rfl rfl<|WL.o rfl rfl<|WL.o rfl rfl<|WL.v (Y.pick rfl rfl)<|WL.nil ⟨⟨_,rfl,?_⟩,rfl,Fr.cT⟩;exact aH
 refine bp ?_ ?_<;>intro ht10
 ·refine CW.sr fun K11 hK11=>WL.a rfl<|WL.nil (hK11 _ _ ?_);clear hK11;refine CW.ret ⟨_,rfl,?_⟩;exact⟨by simp only [bj];(repeat' split)<;>first|rfl|(simp_all;done)|(simp_all;omega),hx1⟩
 refine CW.skip ?_;refine hK9 _ _ ?_;clear hK9;refine CW.seq fun K12 hK12=>?_;refine CW.bS 30 (r.n=0∧r.c=aD.zero) ?_ ?_
 ·refine CW.region<|WL.v (Y.fieldAddr bF rfl)<|WL.v (Y.ah underlying3 rfl hM1.iR rfl)<|WL.v (Y.eql rfl rfl)<|WL.m rfl ?_;refine dO ?_ ?_<;>intro hg25
  ·refine WL.g rfl rfl (Y.fieldAddr cw rfl)<|WL.g rfl rfl (Y.load underlying42 rfl hM1.mr (aj _) rfl)<|WL.g rfl rfl (Y.eQ (fw _))<|WL.g rfl rfl (Y.dD rfl rfl)<|WL.v (Y.pick rfl rfl)<|WL.nil ⟨⟨_,rfl,?_⟩,rfl,Fr.cT⟩;exact aH
  ·refine WL.o rfl rfl<|WL.o rfl rfl<|WL.o rfl rfl<|WL.o rfl rfl<|WL.v (Y.pick rfl rfl)<|WL.nil ⟨⟨_,rfl,?_⟩,rfl,Fr.cT⟩;exact aH
 refine bp ?_ ?_<;>intro ht13
 ·refine CW.sr fun K14 hK14=>WL.a rfl<|WL.nil (hK14 _ _ ?_);clear hK14;refine CW.ret ⟨_,rfl,?_⟩;exact⟨by simp only [bj];(repeat' split)<;>first|rfl|(simp_all;done)|(simp_all;omega),hx1⟩
 refine CW.skip ?_;refine hK12 _ _ ?_;clear hK12;refine CW.sr fun K15 hK15=>WL.a rfl<|WL.nil (hK15 _ _ ?_);clear hK15;refine CW.ret ⟨_,rfl,?_⟩;exact⟨by simp only [bj];(repeat' split)<;>first|rfl|(simp_all;done)|(simp_all;omega),hx1⟩
theorem oX(a b:aD)(w:World):Calls prog 73 #[cU a,cU b] w (cB fun v w'=>v= .bool (bX a b)∧Ext w w'):=by
 refine ar 13 [4] [(0,cU a),(1,cU b)] func73 rfl rfl rfl aL cz ?_;refine CW.sr fun K1 hK1=>WL.box rfl rfl aw fun g2 w1 hx1 hg2 hB2=>?_;have hM2:=hB2.mem;refine WL.box rfl rfl aw fun g3 w2 hx2 hg3 hB3=>?_;have hM3:=hB3.mem;have hM2:=hM2.ext hx2;refine WL.a rfl<|WL.nil (hK1 _ _ ?_);clear hK1;refine CW.seq fun K2 hK2=>CW.sr fun K3 hK3=>WL.v (Y.load underlying42 rfl hM2 (aj _) rfl)<|WL.v (Y.load underlying42 rfl hM3 (aj _) rfl)<|WL.v (Y.dD rfl rfl)<|WL.nil (hK3 _ _ ?_);clear hK3;refine bp ?_ ?_<;>intro ht4
 ·refine CW.sr fun K5 hK5=>WL.a rfl<|WL.nil (hK5 _ _ ?_);clear hK5;refine CW.ret ⟨_,rfl,?_⟩;exact⟨by simp_all [bX,fW],hx1.ae hx2⟩
 refine CW.skip ?_;refine hK2 _ _ ?_;clear hK2;refine CW.seq fun K6 hK6=>CW.quiet (fun wq=>Ext w2 wq) aG aG aE.drew<|QL.v (fun wq hq=>Y.lp underlying42 rfl fx)<|QL.v (fun wq hq=>Y.dy underlying142 underlying5 underlying9 rfl (l:=a.1) a.2 (fun _=>⟨_,rfl,hM2.ext hq⟩) (fun h=>by cases h))<|QL.v (fun wq hq=>Y.lp underlying42 rfl fx)<|QL.v (fun wq hq=>Y.dy underlying142 underlying5 underlying9 rfl (l:=b.1) b.2 (fun _=>⟨_,rfl,hM3.ext hq⟩) (fun h=>by cases h))<|QL.v (fun wq hq=>Y.Am rfl rfl)<|QL.a rfl<|QL.nil fun w3 hx3=>?_;refine hK6 _ _ ?_;clear hK6;refine CW.ret ⟨_,rfl,?_⟩;exact⟨by simp [bX,uh],(hx1.ae hx2).ae hx3⟩
end Go.Proofs.YtmehkigmnpjcjaaGreatDoor
namespace Go.Proofs.YtmehkigmnpjcjaaGreatDoor
open Go.Shelf Go.Proofs.Tryz
def yl:Go.Shelf.Ren:=⟨fun|137=>24|217=>53|266=>81|n=>n,fun|9=>9|5=>5|3=>3|n=>n,fun|n=>n⟩
theorem FR:Go.Proofs.Lays.n137 prog yl:={
 mixed:=by kernel_rfl
 f137:=func24.trans (congrArg some (by kernel_rfl))
 f217:=func53.trans (congrArg some (by kernel_rfl))
 f266:=func81.trans (congrArg some (by kernel_rfl))
 t3:=underlying3
 a3:=Tryz.isAgg3
 z3:=Tryz.sizeOf3
 v3:=Tryz.zeroValue3
 t5:=underlying5
 a5:=Tryz.isAgg5
 z5:=Tryz.sizeOf5
 v5:=Tryz.zeroValue5
 t9:=underlying9
 a9:=Tryz.isAgg9
 z9:=Tryz.sizeOf9
 v9:=Tryz.zeroValue9}
open Go.RowKit in
theorem strings_IndexByte(s:ByteArray)(c:Int)(w:World):
  Calls prog 24 #[.string s,.int .u8 c] w fun e w'=>e= .returned (.int .i64 (Lib.indexByte s.data.toList c.toNat.toUInt8))∧w'=w:=Any.strings_IndexByte FR s c w
end Go.Proofs.YtmehkigmnpjcjaaGreatDoor
namespace Go.Proofs.YtmehkigmnpjcjaaGreatDoor
open Go.RowKit Go.Fw Go.Pl Go.Proofs.Tryz
theorem ni(a b:aD)(w:World):Calls prog 89 #[cU a,cU b] w (cB fun v w'=>v= .bool (bX a b)∧Ext w w'):=by
 refine ar 24 [4] [(0,cU a),(1,cU b)] func89 rfl rfl rfl aL cz ?_;refine CW.sr fun K1 hK1=>WL.box rfl rfl aw fun g2 w1 hx1 hg2 hB2=>?_;have hM2:=hB2.mem;refine WL.box rfl rfl aw fun g3 w2 hx2 hg3 hB3=>?_;have hM3:=hB3.mem;have hM2:=hM2.ext hx2;refine WL.a rfl<|WL.nil (hK1 _ _ ?_);clear hK1;refine CW.seq fun K2 hK2=>CW.sr fun K3 hK3=>WL.a rfl<|WL.nil (hK3 _ _ ?_);clear hK3;refine CW.block ?_;refine CW.loop (X:=Nat) (fun x=>[(2,.pointer (some ⟨g2,0,none⟩)),(3,.pointer (some ⟨g3,0,none⟩)),(5,.int .i64 (x:Int))]) (fun x w0=>x≤32∧a.1.take x=b.1.take x∧Ext w w0∧Mem w0 ⟨g2,0,none⟩ (aN a)∧Mem w0 ⟨g3,0,none⟩ (aN b)) (fun x=>32-x) 0 (Fr.le.cons rfl (Fr.le.cons rfl (Fr.le.cons rfl Fr.le.nil))) ⟨by omega,rfl,(hx1.ae hx2),hM2,hM3⟩ ?_;intro x w3 hl3;obtain⟨hi,htk,hL3,hM2,hM3⟩:=hl3;have ha:=a.2;have hb:=b.2;refine CW.seq fun K4 hK4=>CW.sr fun K5 hK5=>WL.m rfl<|WL.v (Y.lss rfl rfl)<|WL.nil (hK5 _ _ ?_);clear hK5;refine bp ?_ ?_<;>intro ht6
 ·refine CW.skip ?_;refine hK4 _ _ ?_;clear hK4;refine CW.seq fun K7 hK7=>?_;refine CW.block<|CW.seq fun K8 hK8=>CW.quiet (fun wq=>Ext w3 wq) aG aG aE.drew<|QL.m rfl<|QL.v (fun wq hq=>Y.aW underlying42 rfl rfl cg ai)<|QL.v (fun wq hq=>Y.ah underlying5 rfl ((hM2.ext hq).wY (i:=x) ai) rfl)<|QL.m rfl<|QL.v (fun wq hq=>Y.aW underlying42 rfl rfl cg ai)<|QL.v (fun wq hq=>Y.ah underlying5 rfl ((hM3.ext hq).wY (i:=x) ai) rfl)<|QL.v (fun wq hq=>Y.neq rfl rfl)<|QL.nil fun w4 hx4=>?_;have hM2:=hM2.ext hx4;have hM3:=hM3.ext hx4;refine hK8 _ _ ?_;clear hK8;refine bp ?_ ?_<;>intro ht9
  ·refine CW.seq fun K10 hK10=>CW.quiet (fun wq=>Ext w4 wq) aG aG aE.drew<|QL.m rfl<|QL.v (fun wq hq=>Y.aW underlying42 rfl rfl cg ai)<|QL.v (fun wq hq=>Y.ah underlying5 rfl ((hM2.ext hq).wY (i:=x) ai) rfl)<|QL.m rfl<|QL.v (fun wq hq=>Y.aW underlying42 rfl rfl cg ai)<|QL.v (fun wq hq=>Y.ah underlying5 rfl ((hM3.ext hq).wY (i:=x) ai) rfl)<|QL.v (fun wq hq=>Y.lss rfl rfl)<|QL.a rfl<|QL.nil fun w5 hx5=>?_;have hM2:=hM2.ext hx5;have hM3:=hM3.ext hx5;refine hK10 _ _ ?_;clear hK10;refine CW.ret ⟨_,rfl,?_⟩;refine⟨?_,((hL3.ae hx4).ae hx5)⟩;have:=pE (i:=x) htk (List.getElem?_eq_getElem ai) (List.getElem?_eq_getElem ai) (fun e=>ht9 (by rw [e]));rw [bX,this];congr 1;simp [UInt8.lt_iff_toNat_lt]
  refine CW.skip ?_;refine hK7 _ _ ?_;clear hK7;refine CW.region<|WL.m rfl<|WL.v (Y.add rfl rfl bB)<|WL.a rfl<|WL.nil ?_;refine⟨x+1,by omega,(Fr.le.cons rfl (Fr.le.cons rfl (Fr.le.cons rfl Fr.le.nil))),by omega,?_,(hL3.ae hx4),hM2,hM3⟩;rw [take_succ (List.getElem?_eq_getElem ai),take_succ (List.getElem?_eq_getElem ai),htk];congr 2;exact UInt8.toNat_inj.1 ai
 refine CW.exit ?_;refine hK2 _ _ ?_;clear hK2;refine CW.sr fun K11 hK11=>WL.a rfl<|WL.nil (hK11 _ _ ?_);clear hK11;refine CW.ret ⟨_,rfl,?_⟩;refine⟨?_,hL3⟩;have:a=b:=by
  apply Subtype.ext;rw [←List.take_of_length_le (l:=a.1) (i:=x) ai,←List.take_of_length_le (l:=b.1) (i:=x) ai,htk]
 simp [this,bX,fW]
theorem wR(s:ByteArray)(w:World)(hs:s.size≤maxLen):Calls prog 11 #[.string s] w (cB fun v w'=>v= .bool (mi s.toList)∧Ext w w'):=by
 unfold maxLen at hs;have hsl:=bR s;refine ar 23 [2] [(0,.string s)] func11 rfl rfl rfl aL du ?_;refine CW.sr fun K1 hK1=>WL.a rfl<|WL.nil (hK1 _ _ ?_);clear hK1;refine CW.seq fun K2 hK2=>CW.sr fun K3 hK3=>WL.m rfl<|WL.v (Y.aM underlying9 rfl)<|WL.m rfl<|WL.nil (hK3 _ _ ?_);clear hK3;refine CW.block ?_;refine CW.loop (X:=Nat) (fun x=>[(0,.string s),(5,.int .i64 (s.size:Int)),(6,.int .i64 (x:Int))]) (fun x w0=>x≤s.size∧(s.toList.take x).all letter=true∧Ext w w0) (fun x=>s.size-x) 0 (Fr.le.cons rfl (Fr.le.cons rfl (Fr.le.cons rfl Fr.le.nil))) ⟨by omega,by simp,aE.refl⟩ ?_;intro x w1 hl1;obtain⟨hi,hall,hL1⟩:=hl1;refine CW.sr fun K4 hK4=>WL.v (Y.lss rfl rfl)<|WL.nil (hK4 _ _ ?_);clear hK4;refine CW.seq fun K5 hK5=>?_;refine bp ?_ ?_<;>intro ht6
 ·refine CW.skip ?_;refine hK5 _ _ ?_;clear hK5;refine CW.seq fun K7 hK7=>?_;refine CW.block<|CW.sr fun K8 hK8=>WL.m rfl<|WL.a rfl<|WL.nil (hK8 _ _ ?_);clear hK8;refine CW.sr fun K9 hK9=>WL.m rfl<|WL.m rfl<|WL.v (Y.cJ underlying9 rfl rfl ai)<|WL.call func24 rfl rfl rfl (HE (strings_IndexByte _ _ _)) aL ?_;rintro v w2 ⟨rfl,hx2⟩;refine WL.v (Y.lss rfl rfl)<|WL.nil (hK9 _ _ ?_);clear hK9;refine bp ?_ ?_<;>intro ht10
  ·refine CW.sr fun K11 hK11=>WL.a rfl<|WL.nil (hK11 _ _ ?_);clear hK11;refine CW.ret ⟨_,rfl,?_⟩;refine⟨?_,(hL1.ae hx2)⟩;rw [yf (ku (i:=x) ai) ((pK _).1 (by have h:=ht10;simp at h;exact h))]
  refine CW.skip ?_;refine hK7 _ _ ?_;clear hK7;refine CW.region<|WL.v (Y.add rfl rfl bB)<|WL.m rfl<|WL.nil ?_;refine⟨x+1,by omega,(Fr.le.cons rfl (Fr.le.cons rfl (Fr.le.cons rfl Fr.le.nil))),by omega,?_,(hL1.ae hx2)⟩;refine nE hall (ku ai) ?_;have h:=(not_congr (pK s[x])).1 (by have h:=ht10;simp at h;exact Int.not_lt.2 h);simpa using h
 refine CW.exit ?_;refine hK2 _ _ ?_;clear hK2;refine CW.sr fun K12 hK12=>WL.m rfl<|WL.v (Y.aM underlying9 rfl)<|WL.v (Y.geq rfl rfl)<|WL.m rfl ?_;refine dO ?_ ?_<;>intro hg18
 ·refine WL.g rfl rfl (Y.move rfl)<|WL.g rfl rfl (Y.aM underlying9 rfl)<|WL.g rfl rfl (Y.leq rfl rfl)<|WL.v (Y.pick rfl rfl)<|WL.a rfl<|WL.nil (hK12 _ _ ?_);clear hK12;refine CW.ret ⟨_,rfl,?_⟩;exact⟨by rw [m6 hall ai,hsl];congr 1;rw [Bool.eq_iff_iff];simp;omega,hL1⟩
 ·refine WL.o rfl rfl<|WL.o rfl rfl<|WL.o rfl rfl<|WL.v (Y.pick rfl rfl)<|WL.a rfl<|WL.nil (hK12 _ _ ?_);clear hK12;refine CW.ret ⟨_,rfl,?_⟩;exact⟨by rw [m6 hall ai,hsl];congr 1;rw [Bool.eq_iff_iff];simp;omega,hL1⟩
end Go.Proofs.YtmehkigmnpjcjaaGreatDoor
