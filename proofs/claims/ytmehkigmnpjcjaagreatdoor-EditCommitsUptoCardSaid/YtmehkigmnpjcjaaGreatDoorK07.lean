/- Parts of a proof: what its last text leans on. No condition. -/
import Derived.Test.YtmehkigmnpjcjaaGreatDoorChecked
import Derived.Test.YtmehkigmnpjcjaaGreatDoorRows
import Derived.Lib.LaidTab
import Derived.LaidHandle
import Derived.Stop.Joined
import Derived.Deep.DeepHandedRow
import Derived.MapKept
import Derived.WideKeyRuns
import Derived.ChangeMaps4
import Derived.DeepKeys3
import Derived.Test.YtmehkigmnpjcjaaGreatDoorK06
set_option linter.unusedSimpArgs false
set_option linter.unusedVariables false
namespace Go.Fw
open Go.RowKit
theorem aE.step{S:Nat→Prop}{w w1 w2:World}(h:Ext w w1)(c:aE S w1 w2)(hS:∀k,S k→w.heap.size≤k):Ext w w2:=((Ext.aA h).trans c (fun _ _ h=>h)).sD (fun i hi h=>by have:=hS i h;omega)
section
variable {P:Program} {n:NN} {fr:Fr} {w:World} {ty:TypeId}
theorem Y.rem{x y:Operand}{k:IntKind}{p q:Int}{t t':TypeId}(hx:ev fr x=some (.int k p))(hy:ev fr y=some (.int k q))(h:q≠0):Yw P n fr (.binOp .rem t x y t') ty w (.int k (p.tmod q)) w:=Y.bin hx hy (by simp [eqGuard_at_int]) (by simp [binOp_rem,Op.intDiv,h])
theorem Y.quo{x y:Operand}{k:IntKind}{p q:Int}{t t':TypeId}(hx:ev fr x=some (.int k p))(hy:ev fr y=some (.int k q))(h:q≠0):Yw P n fr (.binOp .quo t x y t') ty w (.int k (k.wrap (p.tdiv q))) w:=Y.bin hx hy (by simp [eqGuard_at_int]) (by simp [binOp_quo,Op.intDiv,h])
theorem Y.mD{x hi:Operand}{t e ty:TypeId}{A:Option Addr}{m c k j:Nat}{kj:IntKind}{z:Int}(hT:P.underlying t=some (.slice e))(hx:ev fr x=some (.slice A m c))(hhi:ev fr hi=some (.int kj z))
  (hS:(P.info? e).map (·.size)=some k) (hz:z=(j:Int)) (h2:j≤c):Yw P n fr (.slice t x none (some hi) none) ty w (.slice A j c) w:=fun b o' ho _ ha=>by
 subst hz;have e2:(0:Int)≤(j:Int):=by omega
 have ea:(A.map fun a=>a.add (0*k))=A:=by cases A<;>simp [Addr.add]
 simp [execOp,ho,ha.ev hx,ha.ev hhi,Instr.sliceAt,Instr.slice,run_underlying hT,Instr.sliceBounds,Instr.sliceBound,asIntOf,e2,h2,b5 hS];intro _;cases A<;>simp [Addr.add]
theorem St.wU{t e:TypeId}{k:Nat}(hu:P.underlying t=some (.slice e))(hS:(P.info? e).map (·.size)=some k):
  St P n fr (.buildSlice t 0 #[]) ty w (fun v w'=>∃g,v= .slice (some ⟨g,0,none⟩) 0 0∧w.heap.size≤g∧Own w' e k v []∧Ext w w'):=fun a o' ho hty ha=>by
 refine⟨_,w.alloc (.cells #[] e),?_,w.heap.size,rfl,Nat.le_refl _,.inr ⟨w.heap.size,0,0,[],(0,0),rfl,heap_alloc_new w _,by simp,Nat.le_refl _,Nat.zero_le _,by simp,fun o h=>by omega⟩,aE.alloc _⟩;simp only [execOp,ho];have hr0:Array.range 0= #[]:=by decide
 simp [Instr.buildSlice,run_underlying hu,b5 hS,Instr.fill,newRow,hr0]
theorem wW{α:Type}{enc:α→List Value}{k:Nat}(he:∀x,(enc x).length=k){w:World}{a:Addr}:∀(xs:List α) (i0:Nat),(∀i x,xs[i]? =some x→Mem w (a.add ((i0+i)*k)) (enc x))→Mem w (a.add (i0*k)) ((xs.map enc).flatten)
 | [],_,_=>Mem.nil
 |x::xs,i0,h=>by
  have h0:=h 0 x rfl;have ih:=wW he (w:=w) (a:=a) xs (i0+1) fun i y hy=>by
   have:=h (i+1) y (by simpa using hy);rwa [show i0+1+i=i0+(i+1)by omega]
  intro j v hj;simp only [List.map_cons,List.flatten_cons]at hj;rcases Nat.lt_or_ge j (enc x).length with hlt|hge
  ·rw [List.getElem?_append_left hlt]at hj;exact h0 j v hj
  ·rw [List.getElem?_append_right hge,he]at hj;rw [he]at hge;have:=ih (j-k) v hj;rw [add_add]at this⊢;rw [show(i0+1)*k+(j-k)=i0*k+j by rw [Nat.succ_mul];omega]at this;exact this
theorem Sl.flat{α:Type}{enc:α→List Value}{k:Nat}(he:∀x,(enc x).length=k){A:Option Addr}{m c:Nat}{xs:List α}(h:Sl w enc k (.slice A m c) xs):xs.length=m∧m≤c∧c≤maxLen∧(0<m→∃a,A=some a∧Mem w a ((xs.map enc).flatten)):=by
 obtain⟨A',m',c',e,hl,hmc,hcm,hx⟩:=h;injection e with e1 e2 e3
 subst e1;subst e2;subst e3;refine⟨hl,hmc,hcm,fun h0=>?_⟩;obtain⟨x,hx0⟩:∃x,xs[0]? =some x:=⟨_,List.getElem?_eq_getElem ai⟩;obtain⟨a,rfl,_⟩:=hx 0 x hx0;refine⟨a,rfl,?_⟩;have:=wW he (w:=w) (a:=a) xs 0 fun i y hy=>by
  obtain⟨a',e,hm⟩:=hx i y hy;injection e with e;subst e
  rwa [Nat.zero_add]
 simpa [Addr.add]using this
theorem Sl.src{α:Type}{enc:α→List Value}{k:Nat}(he:∀x,(enc x).length=k){A:Option Addr}{m c:Nat}{xs:List α}(h:Sl w enc k (.slice A m c) xs):Src P w k (.slice A m c) m ((xs.map enc).flatten):=by
 obtain⟨hl,_,_,hA⟩:=h.flat he;exact Src.slice (by rw [aO he,hl]) hA
theorem Sl.lens{α:Type}{enc:α→List Value}{k:Nat}{v:Value}{xs:List α}(h:Sl w enc k v xs):∃A c,v= .slice A xs.length c∧xs.length≤c∧c≤maxLen:=by
 obtain⟨A',m',c',e,hl,hmc,hcm,hx⟩:=h;subst hl;exact⟨A',c',e,hmc,hcm⟩
theorem By.take{A:Option Addr}{m c:Nat}{bs:List UInt8}(h:By w (.slice A m c) bs){j:Nat}(hj:j≤m):By w (.slice A j c) (bs.take j):=by
 obtain⟨A',m',c',e,hl,hmc,hcm,hA,hn⟩:=h;injection e with e1 e2 e3
 subst e1;subst e2;subst e3;refine⟨A,j,c,rfl,by rw [List.length_take];omega,by omega,hcm,fun h0=>?_,fun h=>by have:=hn h;omega⟩;obtain⟨a,rfl,hm⟩:=hA ai;refine⟨a,rfl,fun i v hv=>hm i v ?_⟩;have hlt:i<(az (bs.take j)).length:=(List.getElem?_eq_some_iff.1 hv).1;rw [aS,List.length_take]at hlt;rw [az,List.getElem?_map,List.getElem?_take,if_pos ai]at hv;rw [az,List.getElem?_map];exact hv
theorem By.len{A:Option Addr}{m c:Nat}{bs:List UInt8}(h:By w (.slice A m c) bs):bs.length=m∧m≤c∧c≤maxLen:=by
 obtain⟨A',m',c',e,hl,hmc,hcm,hA,hn⟩:=h;injection e with e1 e2 e3
 subst e1;subst e2;subst e3;exact⟨hl,hmc,hcm⟩
theorem By.mem{A:Option Addr}{m c:Nat}{bs:List UInt8}(h:By w (.slice A m c) bs):(0<m→∃a,A=some a∧Mem w a (az bs))∧(A=none→m=0):=by
 obtain⟨A',m',c',e,hl,hmc,hcm,hA,hn⟩:=h;injection e with e1 e2 e3
 subst e1;subst e2;subst e3;exact⟨hA,hn⟩
theorem By.lens{v:Value}{bs:List UInt8}(h:By w v bs):∃A m c,v= .slice A m c:=by
 obtain⟨A',m',c',e,_⟩:=h;exact⟨_,_,_,e⟩
theorem Src.by{A:Option Addr}{m c:Nat}{bs:List UInt8}(h:By w (.slice A m c) bs):Src P w 1 (.slice A m c) m (az bs):=Src.slice (by rw [aS,h.len.1];omega) h.mem.1
end
end Go.Fw
namespace Go.Fw
open Go.RowKit
def xj(fr:Fr):List Nat→Option (List Value)
 | []=>some []
 |t::r=>match fr.get t,xj fr r with
  |some v,some vs=>some (v::vs)
  |_,_=>none
theorem ju.xj{n:NN}{a:Act}{fr:Fr}(h:ju n a fr):∀{ts:List Nat} {vs:List Value},Fw.xj fr ts=some vs→ts.map (fun t=>a.tmps.getD t undef)=vs
 | [],vs,e=>by simpa [Fw.xj]using e
 |t::r,vs,e=>by
  simp only [Fw.xj]at e;split at e
  ·rename_i v us h1 h2;simp only [Option.some.injEq]at e;subst e;have:=h.get t v h1;simp only [List.map_cons,h.xj h2];simp [this]
  ·cases e
@[reducible] def Hr(t m:Nat)(ts:List Nat)(R:Value→World→Prop)(fr:Fr)(w:World):Prop:=∃a cs vs,fr.get t=some (.pointer (some a))∧Mem w a cs∧cs.length=m∧xj fr ts=some vs∧R (.tuple (.agg cs.toArray::vs).toArray) w
theorem Cc{P:Program}{n:NN}{fn:Func}{a:Act}{t m:Nat}{ts:List Nat}{ty:TypeId}{d:TypeDesc}{R:Value→World→Prop}(hr:fn.results=(ResultVar.cell t ty::ts.map ResultVar.tmp).toArray)(hts:ts.length=1∨ts.length=2)(hT:P.underlying ty=some d)(hd:iD d=false)(hS:(P.info? ty).map (·.size)=some m)
  {fr:Fr} {w:World} (ha:ju n a fr) (hD:Hr t m ts R fr w):∃v,(results fn a.tmps).run P w= .ok v w∧R v w:=by
 obtain⟨p,cs,vs,hp,hm,hl,hg,hR⟩:=hD;have h1:=l6 (P:=P) hT hd (by rw [hl];exact hS) hm;have e:=ha.get t _ hp;have e2:=ha.xj hg;refine⟨_,?_,hR⟩;match ts,hts with
 | [u],_=>
  simp at e2;subst e2;simp [results,hr,e,asAddr,h1]
 | [u,x],_=>
  simp at e2;subst e2;simp [results,hr,e,asAddr,h1]
theorem dV{P:Program}{w:World}{f:FuncId}{fn:Func}{c:Code}{args:List Value}{R:Value→World→Prop}(m t k:Nat)(ts:List Nat)(fr0:Fr){ty:TypeId}{d:TypeDesc}
  (hf:P.funcs[f]? =some fn) (hb:fn.body=some c) (hm:fn.ntmps=m) (hr:fn.results=(ResultVar.cell t ty::ts.map ResultVar.tmp).toArray) (hT:P.underlying ty=some d) (hd:iD d=false) (hS:(P.info? ty).map (·.size)=some k)
  (hsz:args.length≤m) (hargs:∀t v,fr0.get t=some v→args[t]? =some v)
  (h:CW P c (m,[],none) (AH (Hr t k ts R) (fun _ _=>False)) fr0 w) (hts:ts.length=1∨ts.length=2:=by decide):Calls P f args.toArray w (cB R):=
 (pT m _ fr0 hf hb hm (fun a fr w ha hD=>Cc hr hts hT hd hS ha hD) hsz hargs h).mono fun e w' he=>by
  cases e with
  |returned v=>exact he
  |panicked ch=>exact he.elim
  |outgrown=>exact he.elim
theorem aE.lf{S T:Nat→Prop}{w w1 w2:World}(h:aE S w w1)(c:aE T w1 w2)(hT:∀k,T k→S k∨w.heap.size≤k):aE S w w2:=
 h.trans c fun i hi h=>by rcases hT i h with h|h;exact h;omega
theorem add_zero'(g i:Nat):(⟨g,0,none⟩:Addr).add i=⟨g,i,none⟩:=by unfold Addr.add;split<;>simp_all
theorem Own.store{P:Program}{w:World}{e:TypeId}{k g n c:Nat}{pre old post new:List Value}(hown:Own w e k (.slice (some ⟨g,0,none⟩) n c) (pre++old++post))(hl:new.length=old.length)(h1:∀u∈new,u.oneCell'=true):
  ∃w',(storeCells ⟨g,pre.length,none⟩ new).run P w= .ok () w'∧aE (·=g) w w'∧Own w' e k (.slice (some ⟨g,0,none⟩) n c) (pre++new++post):=by
 rcases hown with⟨h,_⟩|⟨g',n',c',rest,fz,h,hh,hxl,hnc,hcm,hal,hfz⟩
 ·cases h
 ·injection h with h2 h3 h4
  injection h2 with h2
  injection h2 with h2
  subst h2;subst h3;subst h4;have hst:=fY (P:=P) g pre.length e fz new 0 (pre++old++post++rest).toArray w hh (by simp;omega) h1 (fun p hp=>hfz p (by simp at hp;simp at hal;omega));have heq:((pre++old++post++rest).toArray.toList.take (pre.length+0)++new++(pre++old++post++rest).toArray.toList.drop (pre.length+0+new.length)).toArray=(pre++new++post++rest).toArray:=by
   congr 1;rw [List.toList_toArray,Nat.add_zero,List.append_assoc pre old post,List.append_assoc pre (old++post) rest,List.take_left,hl,←List.append_assoc pre (old++post) rest,←List.append_assoc pre old post,List.append_assoc (pre++old) post rest];rw [show pre.length+old.length=(pre++old).length by simp,List.drop_left];simp only [List.append_assoc]
  rw [heq]at hst;refine⟨_,hst,⟨rfl,rfl,rfl,by simp,fun b hb hn=>setRow_other w g b _ hn,Nat.le_refl _⟩,.inr ⟨g,n,c,rest,fz,rfl,setRow_heap w g _ _ e fz hh,?_,hnc,hcm,?_,hfz⟩⟩
  ·rw [←hxl];simp [hl]
  ·rw [←hal];simp [hl]
theorem WL.kZ{P:Program}{n:NN}{Φ:Exit→Fr→World→Prop}{fr:Fr}{w:World}{ops:Array Oper}{rest:List Oper}{t e:TypeId}{x y:Operand}{ty:TypeId}{pos:String}{aft:Array Edge}{v:Value}{g k m c:Nat}{pre old post new:List Value}{A:Addr}
  (hx:ev fr x=some (.pointer (some A))) (hA:A=⟨g,pre.length,none⟩) (hy:ev fr y=some v) (hv:v.cells=new.toArray) (hS:(P.info? t).map (·.size)=some new.length)
  (hown:Own w e k (.slice (some ⟨g,0,none⟩) m c) (pre++old++post)) (hl:new.length=old.length) (h1:∀u∈new,u.oneCell'=true)
  (h:∀w',aE (·=g) w w'→Own w' e k (.slice (some ⟨g,0,none⟩) m c) (pre++new++post)→WL P ops n Φ rest fr w'):
  WL P ops n Φ (⟨none,.store t x y,ty,pos,aft,none⟩::rest) fr w:=fun a ha=>
 wpList_plain rfl fun K hK=>by
  obtain⟨w',hst,hc,hb'⟩:=hown.store (P:=P) hl h1;have hrun:(execOp a.eval ⟨none,.store t x y,ty,pos,aft,none⟩).run P w= .ok .skip w':=by
   simp [execOp,ha.ev hx,ha.ev hy,Instr.storeAt,Instr.sureAddr,storeVar,b5 hS,hv,hA,hst]
  unfold Oper.wp;rw [hrun];exact hK _ _ (h w' hc hb' _ ha)
theorem Sl.aA{α:Type}{T:Nat→Prop}{w w':World}{enc:α→List Value}{k:Nat}{v:Value}{xs:List α}(h:Sl w enc k v xs)(hc:aE T w w')(hs:∀b,v.ownBlock=some b→¬T b):Sl w' enc k v xs:=by
 obtain⟨A,m,c,rfl,hl,hmc,hcm,hx⟩:=h;refine⟨A,m,c,rfl,hl,hmc,hcm,fun i x hi=>?_⟩;obtain⟨a,rfl,hm⟩:=hx i x hi;exact⟨a,rfl,hm.aA hc (by rw [block_add];exact hs _ rfl)⟩
theorem Own.head{w:World}{e:TypeId}{k:Nat}{A:Option Addr}{n c:Nat}{xs:List Value}(h:Own w e k (.slice A n c) xs)(h0:xs≠[]):∃g,A=some ⟨g,0,none⟩∧g<w.heap.size:=by
 rcases h with⟨_,h⟩|⟨g,n',c',rest,fz,h,hh,_⟩
 ·exact absurd h h0
 ·injection h with h1 _ _
  exact⟨g,h1,(Array.getElem?_eq_some_iff.1 hh).1⟩
section
variable {P:Program} {n:NN} {fr:Fr} {w:World} {ty:TypeId}
theorem Y.gH{x lo:Operand}{t e ty:TypeId}{A:Option Addr}{m c k i:Nat}{ki:IntKind}{z:Int}(hT:P.underlying t=some (.slice e))(hx:ev fr x=some (.slice A m c))(hlo:ev fr lo=some (.int ki z))
  (hS:(P.info? e).map (·.size)=some k) (hz:z=(i:Int)) (h1:i≤m):Yw P n fr (.slice t x (some lo) none none) ty w (.slice (if c=i then A else A.map fun a=>a.add (i*k)) (m-i) (c-i)) w:=fun b o' ho _ ha=>by
 subst hz;have e2:(0:Int)≤(i:Int):=by omega
 simp [execOp,ho,ha.ev hx,ha.ev hlo,Instr.sliceAt,Instr.slice,run_underlying hT,Instr.sliceBounds,Instr.sliceBound,asIntOf,e2,h1,b5 hS]
theorem p8{α:Type}{enc:α→List Value}{k:Nat}(he:∀x,(enc x).length=k):∀(xs:List α) (j:Nat),(xs.map enc).flatten.take (j*k)=((xs.take j).map enc).flatten
 | [],j=>by simp
 |x::xs,0=>by simp
 |x::xs,j+1=>by
  simp only [List.map_cons,List.flatten_cons,List.take_succ_cons];rw [Nat.succ_mul,Nat.add_comm (j*k) k,List.take_append,he,Nat.add_sub_cancel_left,p8 he xs j,List.take_of_length_le (by rw [he];omega)]
theorem p4{α:Type}{enc:α→List Value}{k:Nat}(he:∀x,(enc x).length=k):∀(xs:List α) (j:Nat),(xs.map enc).flatten.drop (j*k)=((xs.drop j).map enc).flatten
 | [],j=>by simp
 |x::xs,0=>by simp
 |x::xs,j+1=>by
  simp only [List.map_cons,List.flatten_cons,List.drop_succ_cons];rw [Nat.succ_mul,Nat.add_comm (j*k) k,List.drop_append,he,Nat.add_sub_cancel_left,p4 he xs j,List.drop_of_length_le (by rw [he];omega),List.nil_append]
theorem Mem.take{a:Addr}{cs:List Value}(h:Mem w a cs)(j:Nat):Mem w a (cs.take j):=fun i v hv=>h i v (by rw [List.getElem?_take]at hv;split at hv;exact hv;cases hv)
theorem Mem.drop{a:Addr}{cs:List Value}(h:Mem w a cs)(j:Nat):Mem w (a.add j) (cs.drop j):=h.sub j fun i v hv=>by rw [List.getElem?_drop]at hv;exact hv
theorem Own.Gh{α:Type}{enc:α→List Value}{k:Nat}{e:TypeId}(he:∀x,(enc x).length=k)(hk:0<k){A:Option Addr}{m c:Nat}{xs:List α}(h:Own w e k (.slice A m c) ((xs.map enc).flatten)){j:Nat}(hj:j≤xs.length):Src P w k (.slice A j c) j (((xs.take j).map enc).flatten):=by
 obtain⟨hA,_,hl,_,_⟩:=h.mem A m c rfl;rw [aO he]at hl;have hlm:xs.length=m:=Nat.eq_of_mul_eq_mul_right hk hl;refine Src.slice (by rw [aO he,List.length_take];congr 1;omega) fun h0=>?_;obtain⟨a,rfl,hm⟩:=hA ai;exact⟨a,rfl,by rw [←p8 he];exact hm.take _⟩
theorem Own.GJ{α:Type}{enc:α→List Value}{k:Nat}{e:TypeId}(he:∀x,(enc x).length=k)(hk:0<k){A:Option Addr}{m c:Nat}{xs:List α}(h:Own w e k (.slice A m c) ((xs.map enc).flatten)){j:Nat}(hj:j≤xs.length):
  Src P w k (.slice (if c=j then A else A.map fun a=>a.add (j*k)) (m-j) (c-j)) (m-j) (((xs.drop j).map enc).flatten):=by
 obtain⟨hA,_,hl,hmc,_⟩:=h.mem A m c rfl;rw [aO he]at hl;have hlm:xs.length=m:=Nat.eq_of_mul_eq_mul_right hk hl;refine Src.slice (by rw [aO he,List.length_drop];congr 1;omega) fun h0=>?_;obtain⟨a,rfl,hm⟩:=hA ai;rw [if_neg ai];exact⟨_,rfl,by rw [←p4 he];exact hm.drop _⟩
theorem Own.len{α:Type}{enc:α→List Value}{k:Nat}{e:TypeId}(he:∀x,(enc x).length=k)(hk:0<k){A:Option Addr}{m c:Nat}{xs:List α}(h:Own w e k (.slice A m c) ((xs.map enc).flatten)):xs.length=m∧m≤c∧c≤maxLen:=by
 obtain⟨_,_,hl,hmc,hcm⟩:=h.mem A m c rfl;rw [aO he]at hl;exact⟨Nat.eq_of_mul_eq_mul_right hk hl,hmc,hcm⟩
end
end Go.Fw
namespace Go.Pl
open Go.Fw
def Nz{α:Type}(f:yv α):Prop:=∀bs at_ e,f bs at_= .error e→e≠0
theorem Nz.bind{α β:Type}{f:yv α}{h:α→yv β}(h1:Nz f)(h2:∀x,Nz (h x)):Nz (ph f h):=fun bs at_ e he=>by
 unfold ph at he;split at he
 ·rename_i e' he';injection he with he;subst he
  exact h1 _ _ _ he'
 ·exact h2 _ _ _ _ he
theorem sI{c:bx}(h:eY c=0):(tT c).length≤110000:=by
 have hm:=kM h;have h1:=hm.parents;have h2:=hm.ops;have h3:=hm.name;have h4:=hm.note;have l1:=dS (n:=c.parents.length) ai;have l2:=dS (n:=c.ops.length) ai;have l3:=dS (n:=c.author.toList.length) (by rw [bR];omega);have l4:=dS (n:=c.note.toList.length) (by rw [bR];omega);have f1:=kg (f:=fun d:aD=>d.1) (k:=32) (l:=c.parents) fun d _=>by rw [d.2];exact Nat.le_refl _
 have f2:=kg (f:=wx) (k:=51) (l:=c.ops) fun x hx=>pP (by have:=(hm.n hx).2;omega);simp only [tT,gL,List.length_append];rw [bR]at*;rw [bR]at*;omega
end Go.Pl
namespace Go.Proofs.YtmehkigmnpjcjaaGreatDoor
open Go.RowKit Go.Fw Go.Pl Go.Proofs.Tryz
theorem CO{a b:bx}:q6 a b=true↔a.parents=b.parents∧a.author=b.author∧a.note=b.note∧a.ops=b.ops:=by
 have e:∀x y:ByteArray,x.toList=y.toList↔x=y:=fun x y=>⟨fun h=>by rw [←AN x,←AN y,h],fun h=>by rw [h]⟩;simp [q6,e];constructor
 ·rintro⟨⟨⟨h1,h2⟩,h3⟩,h4⟩;exact⟨h1,h2,h3,h4⟩
 ·rintro⟨h1,h2,h3,h4⟩;exact⟨⟨⟨h1,h2⟩,h3⟩,h4⟩
theorem Ej{a b:bx}:q6 a b=true↔a=b:=by
 rw [CO];cases a;cases b;simp
theorem yS(a:bx):q6 a a=true:=Ej.2 rfl
end Go.Proofs.YtmehkigmnpjcjaaGreatDoor
namespace Go.Fw
open Go.RowKit
def wd(x:UInt32):Value:= .int .u32 (x.toNat:Int)
theorem wrap32(n:Nat):IntKind.u32.wrap (n:Int)=((n % 4294967296:Nat):Int):=by simp [IntKind.wrap,IntKind.bits,IntKind.signed]
theorem Jt(n:Nat):IntKind.u8.wrap (n:Int)=((n % 256:Nat):Int):=by simp [IntKind.wrap,IntKind.bits,IntKind.signed]
theorem wrap64(n:Nat):IntKind.u64.wrap (n:Int)=((n % 18446744073709551616:Nat):Int):=by simp [IntKind.wrap,IntKind.bits,IntKind.signed]
theorem ofInt32(x:UInt32):BitVec.ofInt 32 (x.toNat:Int)=x.toBitVec:=by
 rw [BitVec.ofInt_natCast];apply BitVec.eq_of_toNat_eq;simp
theorem Je(x y:UInt32):IntKind.u32.wrap ((x.toNat:Int)+(y.toNat:Int))=((x+y).toNat:Int):=by
 rw [←Int.natCast_add,wrap32,UInt32.toNat_add]
theorem J5(x y:UInt32):IntKind.u32.wrap ((BitVec.ofInt IntKind.u32.bits (x.toNat:Int)|||BitVec.ofInt IntKind.u32.bits (y.toNat:Int)).toNat:Int)=((x|||y).toNat:Int):=by
 show IntKind.u32.wrap ((BitVec.ofInt 32 (x.toNat:Int)|||BitVec.ofInt 32 (y.toNat:Int)).toNat:Int)=_;rw [ofInt32,ofInt32,wrap32,←UInt32.toBitVec_or,UInt32.toNat_toBitVec,Nat.mod_eq_of_lt (UInt32.toNat_lt _)]
theorem Jf(x y:UInt32):IntKind.u32.wrap ((BitVec.ofInt IntKind.u32.bits (x.toNat:Int)&&&BitVec.ofInt IntKind.u32.bits (y.toNat:Int)).toNat:Int)=((x&&&y).toNat:Int):=by
 show IntKind.u32.wrap ((BitVec.ofInt 32 (x.toNat:Int)&&&BitVec.ofInt 32 (y.toNat:Int)).toNat:Int)=_;rw [ofInt32,ofInt32,wrap32,←UInt32.toBitVec_and,UInt32.toNat_toBitVec,Nat.mod_eq_of_lt (UInt32.toNat_lt _)]
theorem G9(x y:UInt32):IntKind.u32.wrap ((BitVec.ofInt IntKind.u32.bits (x.toNat:Int)^^^BitVec.ofInt IntKind.u32.bits (y.toNat:Int)).toNat:Int)=((x^^^y).toNat:Int):=by
 show IntKind.u32.wrap ((BitVec.ofInt 32 (x.toNat:Int)^^^BitVec.ofInt 32 (y.toNat:Int)).toNat:Int)=_;rw [ofInt32,ofInt32,wrap32,←UInt32.toBitVec_xor,UInt32.toNat_toBitVec,Nat.mod_eq_of_lt (UInt32.toNat_lt _)]
theorem IZ(x:UInt32){n:Nat}(h:n<32):IntKind.u32.wrap ((x.toNat:Int)*2^(min n IntKind.u32.bits))=((x<<<UInt32.ofNat n).toNat:Int):=by
 have e:min n IntKind.u32.bits=n:=Nat.min_eq_left (by show n≤32;omega);have e2:((2:Int)^n)=((2^n:Nat):Int):=by simp
 rw [e,e2,←Int.natCast_mul,wrap32,UInt32.toNat_shiftLeft,Nat.shiftLeft_eq];rw [show(UInt32.ofNat n).toNat % 32=n by rw [UInt32.toNat_ofNat'];omega]
theorem Jl(x:UInt32){n:Nat}(h:n<32):(x.toNat:Int).fdiv (2^(min n IntKind.u32.bits))=((x>>>UInt32.ofNat n).toNat:Int):=by
 have e:min n IntKind.u32.bits=n:=Nat.min_eq_left (by show n≤32;omega);have e2:((2:Int)^n)=((2^n:Nat):Int):=by simp
 rw [e,e2,Int.fdiv_eq_ediv_of_nonneg _ (Int.natCast_nonneg _),←Int.natCast_ediv,UInt32.toNat_shiftRight,Nat.shiftRight_eq_div_pow];rw [show(UInt32.ofNat n).toNat % 32=n by rw [UInt32.toNat_ofNat'];omega]
theorem IB(b:UInt8):IntKind.u32.wrap (b.toNat:Int)=((b.toUInt32).toNat:Int):=by
 rw [wrap32,UInt8.toNat_toUInt32,Nat.mod_eq_of_lt (by have:=b.toNat_lt;omega)]
theorem I0(x:UInt32):IntKind.u8.wrap (x.toNat:Int)=((x.toUInt8).toNat:Int):=by
 rw [Jt,UInt32.toNat_toUInt8]
section
variable {P:Program} {n:NN} {fr:Fr} {w:World} {ty:TypeId} {x y:Operand} {p q:UInt32} {t t':TypeId}
theorem Y.fL(hx:ev fr x=some (wd p))(hy:ev fr y=some (wd q)):Yw P n fr (.binOp .add t x y t') ty w (wd (p+q)) w:=by
 have:=Y.Dh (P:=P) (n:=n) (w:=w) (ty:=ty) (t:=t) (t':=t') hx hy;rw [Je]at this;exact this
theorem IC(x y:UInt32):IntKind.u32.wrap ((x.toNat:Int)*(y.toNat:Int))=((x*y).toNat:Int):=by
 rw [←Int.natCast_mul,wrap32,UInt32.toNat_mul]
theorem Y.JW(hx:ev fr x=some (wd p))(hy:ev fr y=some (wd q)):Yw P n fr (.binOp .mul t x y t') ty w (wd (p*q)) w:=by
 have:=Y.mul_k (P:=P) (n:=n) (w:=w) (ty:=ty) (t:=t) (t':=t') hx hy;rw [IC]at this;exact this
theorem Y.H8{m:Nat}{k:IntKind}{s d:TypeId}{ds:TypeDesc}(hs:P.underlying s=some ds)(hd:P.underlying d=some (.int .u32))(hx:ev fr x=some (.int k (m:Int))):Yw P n fr (.convert s d x) ty w (wd (UInt32.ofNat m)) w:=by
 have:=Y.de (P:=P) (n:=n) (w:=w) (ty:=ty) hs hd hx;rw [wrap32,←UInt32.toNat_ofNat']at this;exact this
theorem Y.Jo(hx:ev fr x=some (wd p))(hy:ev fr y=some (wd q)):Yw P n fr (.binOp .or t x y t') ty w (wd (p|||q)) w:=Y.CI hx hy (J5 p q)
theorem Y.tI(hx:ev fr x=some (wd p))(hy:ev fr y=some (wd q)):Yw P n fr (.binOp .and t x y t') ty w (wd (p&&&q)) w:=
 Y.bin hx hy (by simp [wd,eqGuard_at_int]) (by
  have e:binOp .and t (wd p) (wd q)=pure (wd (p&&&q)):=by simp only [wd,binOp,ne_eq,not_true_eq_false,if_false,Op.intBits,Jf]
  rw [e];rfl)
theorem Y.kD(hx:ev fr x=some (wd p))(hy:ev fr y=some (wd q)):Yw P n fr (.binOp .xor t x y t') ty w (wd (p^^^q)) w:=
 Y.bin hx hy (by simp [wd,eqGuard_at_int]) (by
  have e:binOp .xor t (wd p) (wd q)=pure (wd (p^^^q)):=by simp only [wd,binOp,ne_eq,not_true_eq_false,if_false,Op.intBits,G9]
  rw [e];rfl)
theorem Y.xG(m:Nat){k':IntKind}{z:Int}(hx:ev fr x=some (wd p))(hy:ev fr y=some (.int k' z))(hz:z=(m:Int))(hm:m<32):Yw P n fr (.binOp .shl t x y t') ty w (wd (p<<<UInt32.ofNat m)) w:=by
 subst hz;exact Y.shl hx hy ai (IZ p hm)
theorem Y.tQ(m:Nat){k':IntKind}{z:Int}(hx:ev fr x=some (wd p))(hy:ev fr y=some (.int k' z))(hz:z=(m:Int))(hm:m<32):Yw P n fr (.binOp .shr t x y t') ty w (wd (p>>>UInt32.ofNat m)) w:=by
 subst hz;exact Y.shr hx hy ai (Jl p hm)
theorem Y.mF{b:UInt8}{s d:TypeId}{ds:TypeDesc}(hs:P.underlying s=some ds)(hd:P.underlying d=some (.int .u32))(hx:ev fr x=some (.int .u8 (b.toNat:Int))):Yw P n fr (.convert s d x) ty w (wd b.toUInt32) w:=by
 have:=Y.de (P:=P) (n:=n) (w:=w) (ty:=ty) hs hd hx;rw [IB]at this;exact this
theorem Y.tl{s d:TypeId}{ds:TypeDesc}(hs:P.underlying s=some ds)(hd:P.underlying d=some (.int .u8))(hx:ev fr x=some (wd p)):Yw P n fr (.convert s d x) ty w (.int .u8 (p.toUInt8.toNat:Int)) w:=by
 have:=Y.de (P:=P) (n:=n) (w:=w) (ty:=ty) hs hd hx;rw [I0]at this;exact this
theorem Y.I5(hx:ev fr x=some (wd p)):Yw P n fr (.unOp .xor t x) ty w (wd (~~~p)) w:=fun a o' ho _ ha=>by
 have e:=G9 4294967295 p;have e2:(4294967295:UInt32)^^^p= ~~~p:=by
  apply UInt32.toBitVec_inj.1;simp only [UInt32.toBitVec_xor,UInt32.toBitVec_not];rw [show(4294967295:UInt32).toBitVec=BitVec.allOnes 32 from rfl,BitVec.allOnes_xor]
 rw [e2]at e;have e3:Op.unary .xor (wd p)=pure (wd (~~~p)):=by
  show Op.intBits .xor .u32 4294967295 (p.toNat:Int)=_;rw [show(4294967295:Int)=(((4294967295:UInt32).toNat:Nat):Int)from rfl];simp only [Op.intBits,e];rfl
 simp [execOp,ho,ha.ev hx,e3]
theorem Y.neg{z:Int}{k:IntKind}(hx:ev fr x=some (.int k z)):Yw P n fr (.unOp .neg t x) ty w (.int k (k.wrap (0-z))) w:=fun a o' ho _ ha=>by
 simp [execOp,ho,ha.ev hx,Op.unary,Op.intArith]
end
end Go.Fw
namespace Go.Fw
open Go.RowKit
abbrev dF(l:List UInt32):List Value:=l.map wd
theorem l0{l:List UInt32}:∀u∈dF l,u.oneCell'=true:=by
 intro u hu;obtain⟨x,_,rfl⟩:=List.mem_map.1 hu;rfl
theorem Mem.wd{w:World}{a:Addr}{l:List UInt32}(h:Mem w a (dF l)){i:Nat}{x:UInt32}(hx:l[i]? =some x):w.cell? (a.add (i*1))=some (wd x):=by
 rw [Nat.mul_one];exact h i _ (by rw [List.getElem?_map,hx];rfl)
theorem Mem.bt{w:World}{a:Addr}{l:List UInt8}(h:Mem w a (az l)){i:Nat}(hi:i<l.length):w.cell? (a.add (i*1))=some (.int .u8 ((l.getD i 0).toNat:Int)):=by
 rw [Nat.mul_one];exact h i _ (by rw [List.getD_eq_getElem?_getD,List.getElem?_eq_getElem hi];exact oe (List.getElem?_eq_getElem hi))
section
variable {P:Program} {n:NN} {fr:Fr} {w:World} {ty:TypeId}
theorem Y.pH{x lo:Operand}{t e:TypeId}{m k i:Nat}{ki:IntKind}{z:Int}{a:Addr}(hT:P.underlying t=some (.array m e))(hx:ev fr x=some (.pointer (some a)))(hlo:ev fr lo=some (.int ki z))(hS:(P.info? e).map (·.size)=some k)(hz:z=(i:Int))(h1:i<m):
  Yw P n fr (.slice t x (some lo) none none) ty w (.slice (some (a.add (i*k))) (m-i) (m-i)) w:=fun b o' ho _ ha=>by
 subst hz;have e2:(0:Int)≤(i:Int):=by omega
 have e3:¬m=i:=by omega
 simp [execOp,ho,ha.ev hx,ha.ev hlo,Instr.sliceAt,Instr.sureAddr,run_underlying hT,Instr.sliceBounds,Instr.sliceBound,asIntOf,e2,Nat.le_of_lt h1,b5 hS,e3]
theorem Y.vp{x hi:Operand}{t e:TypeId}{m k j:Nat}{ki:IntKind}{z:Int}{a:Addr}(hT:P.underlying t=some (.array m e))(hx:ev fr x=some (.pointer (some a)))(hhi:ev fr hi=some (.int ki z))(hS:(P.info? e).map (·.size)=some k)(hz:z=(j:Int))(h1:j≤m)(h0:0<m):
  Yw P n fr (.slice t x none (some hi) none) ty w (.slice (some a) j m) w:=fun b o' ho _ ha=>by
 subst hz;have e2:(0:Int)≤(j:Int):=by omega
 have e3:¬m=0:=by omega
 simp [execOp,ho,ha.ev hx,ha.ev hhi,Instr.sliceAt,Instr.sureAddr,run_underlying hT,Instr.sliceBounds,Instr.sliceBound,asIntOf,e2,h1,b5 hS,Addr.add]
theorem St.copy{d s:Operand}{t t' e e':TypeId}{g m j cd cs:Nat}{A D:Addr}{pre old post news:List Value}
  (hT:P.underlying t=some (.slice e)) (hS:(P.info? e).map (·.size)=some 1) (hd:ev fr d=some (.slice (some D) m cd)) (hD:D=⟨g,pre.length,none⟩) (hs:ev fr s=some (.slice (some A) j cs))
  (hm:Mem w A news) (hl:news.length=min j m) (hb:aK w g e' (pre++old++post)) (hlo:news.length=old.length) (h1:∀u∈news,u.oneCell'=true):
  St P n fr (.call {callee:= .builtin .copy,args:=#[d,s],argTypes:=#[t,t']}) ty w (fun v w'=>v= .int .i64 ((min j m:Nat):Int)∧aE (·=g) w w'∧aK w' g e' (pre++news++post)):=fun a o' ho hty ha=>by
 obtain⟨w',hst,hc,hb'⟩:=gU (P:=P) hb hlo h1;have hld:=run_loadCells_list (P:=P) w A news hm;refine⟨_,w',?_,rfl,hc,hb'⟩;subst hD;rw [hl]at hld;have e1:(Builtin.copy_ #[t,t'] o'.type #[.slice (some ⟨g,pre.length,none⟩) m cd,.slice (some A) j cs]).run P w= .ok (.int .i64 ((min j m:Nat):Int)) w':=by
  simp [Builtin.copy_,run_underlying hT,b5 hS,Builtin.lenOf,Builtin.firstCells,hld,hst,goInt]
 simp [execOp,ho,resolve,invoke,builtin,ha.ev hd,ha.ev hs,e1]
end
end Go.Fw
namespace Go.Pl
open Go.Fw
def o7(x:UInt32)(n:Nat):UInt32:=x>>>UInt32.ofNat n|||x<<<UInt32.ofNat (32-n)
def Kc(x:UInt32):UInt32:=(o7 x 7^^^o7 x 18)^^^x>>>UInt32.ofNat 3
def Kd(x:UInt32):UInt32:=(o7 x 17^^^o7 x 19)^^^x>>>UInt32.ofNat 10
def Bb(b:List UInt8)(i:Nat):UInt32:=(((b.getD (4*i) 0).toUInt32<<<UInt32.ofNat 24|||(b.getD (4*i+1) 0).toUInt32<<<UInt32.ofNat 16)|||(b.getD (4*i+2) 0).toUInt32<<<UInt32.ofNat 8)|||(b.getD (4*i+3) 0).toUInt32
def Hi(ws:List UInt32):UInt32:=ws.getD (ws.length-16) 0+Kc (ws.getD (ws.length-15) 0)+ws.getD (ws.length-7) 0+Kd (ws.getD (ws.length-2) 0)
def br(b:List UInt8):Nat→List UInt32
 |0=>[]
 |n+1=>br b n++[if n<16 then Bb b n else Hi (br b n)]
theorem c6(b:List UInt8):∀n,(br b n).length=n
 |0=>rfl
 |n+1=>by rw [br,List.length_append,c6 b n];rfl
def yV(b:List UInt8)(x:Nat):UInt32:=(br b x).getD (x-16) 0+Kc ((br b x).getD (x-15) 0)+(br b x).getD (x-7) 0+Kd ((br b x).getD (x-2) 0)
theorem xO(b:List UInt8){x:Nat}(h:x<16):br b (x+1)=br b x++[Bb b x]:=by rw [br,if_pos h]
theorem sS(b:List UInt8){x:Nat}(h:16≤x):br b (x+1)=br b x++[yV b x]:=by rw [br,if_neg ai,Hi,c6];rfl
theorem oN{x:Nat}(h:x<64)(l:List UInt32):l++List.replicate (64-x) 0=l++0::List.replicate (63-x) 0:=by rw [show 64-x=(63-x)+1 by omega,List.replicate_succ]
theorem dZ{b:List UInt8}{x j:Nat}(h:j<x):(br b x)[j]? =some ((br b x).getD j 0):=by
 rw [List.getD_eq_getElem?_getD,List.getElem?_eq_getElem (by rw [c6];exact h)];rfl
theorem l8{b:List UInt8}{x j:Nat}{r:List UInt32}(h:j<x):(br b x++r)[j]? =some ((br b x).getD j 0):=by
 rw [List.getElem?_append_left (by rw [c6];exact h),dZ h]
structure V8 where
 a:UInt32
 b:UInt32
 c:UInt32
 d:UInt32
 e:UInt32
 f:UInt32
 g:UInt32
 h:UInt32
 deriving DecidableEq
def V8.ws(v:V8):List UInt32:=[v.a,v.b,v.c,v.d,v.e,v.f,v.g,v.h]
def V8.add(v s:V8):V8:=⟨v.a+s.a,v.b+s.b,v.c+s.c,v.d+s.d,v.e+s.e,v.f+s.f,v.g+s.g,v.h+s.h⟩
def rT(v:V8)(k w:UInt32):UInt32:=v.h+((o7 v.e 6^^^o7 v.e 11)^^^o7 v.e 25)+((v.e&&&v.f)^^^(~~~v.e&&&v.g))+k+w
def rU(v:V8):UInt32:=((o7 v.a 2^^^o7 v.a 13)^^^o7 v.a 22)+(((v.a&&&v.b)^^^(v.a&&&v.c))^^^(v.b&&&v.c))
def JO(v:V8)(k w:UInt32):V8:=⟨rT v k w+rU v,v.a,v.b,v.c,v.d+rT v k w,v.e,v.f,v.g⟩
def eF:List UInt32:=[1116352408,1899447441,3049323471,3921009573,961987163,1508970993,2453635748,2870763221,3624381080,310598401,607225278,1426881987,1925078388,2162078206,2614888103,3248222580,3835390401,4022224774,264347078,604807628,770255983,1249150122,1555081692,1996064986,2554220882,2821834349,2952996808,3210313671,3336571891,3584528711,113926993,338241895,666307205,773529912,1294757372,1396182291,1695183700,1986661051,2177026350,2456956037,2730485921,2820302411,3259730800,3345764771,3516065817,3600352804,4094571909,275423344,430227734,506948616,659060556,883997877,958139571,1322822218,1537002063,1747873779,1955562222,2024104815,2227730452,2361852424,2428436474,2756734187,3204031479,3329325298]
def rounds(ws:List UInt32):Nat→V8→V8
 |0,v=>v
 |n+1,v=>JO (rounds ws n v) (eF.getD n 0) (ws.getD n 0)
def re(s:V8)(b:List UInt8):V8:=(rounds (br b 64) 64 s).add s
def gB:V8:=⟨1779033703,3144134277,1013904242,2773480762,1359893119,2600822924,528734635,1541459225⟩
def Bt(c:UInt8):Nat:=if 48≤c.toNat∧c.toNat≤57 then c.toNat-48 else if 97≤c.toNat∧c.toNat≤102 then c.toNat-97+10 else 16
def mJ(l:List UInt8)(i:Nat):Nat→UInt32
 |0=>0
 |k+1=>16*mJ l i k+UInt32.ofNat (Bt (l.getD (8*i+k) 0))
theorem r8{v:V8}{j:Nat}(h:j<8):v.ws[j]? =some (v.ws.getD j 0):=by
 rw [List.getD_eq_getElem?_getD,List.getElem?_eq_getElem (by exact h)];rfl
theorem Dw{j:Nat}(h:j<64):eF[j]? =some (eF.getD j 0):=by
 rw [List.getD_eq_getElem?_getD,List.getElem?_eq_getElem (by exact h)];rfl
end Go.Pl
namespace Go.Proofs.YtmehkigmnpjcjaaGreatDoor
open Go.RowKit Go.Fw Go.WideShapes Go.ChangeShapes Go.Proofs.Tryz
theorem JL:ownKnob prog.godebug=none:=by kernel_rfl
theorem EW:laidOutB prog=true:=by kernel_rfl
theorem DX:gi prog 42 (fun _ cs=>∃d,cs=aN d):=gi.Ir underlying42 underlying5 aG aG
theorem HM:gi prog 62 (fun _ cs=>∃r,cs=aX r∧eE r.n):=
 gi.ref underlying62 aG (gi.bool underlying4) DX (gi.int underlying3) rfl rfl rfl aG aG aG
theorem Jd:gi prog 64 (fun _ cs=>∃x,cs=eM x∧eE x.kind∧eE x.at_.n):=
 gi.op underlying64 aG (gi.int underlying3) (gi.bool underlying4) HM (gi.u8 underlying5) rfl rfl rfl rfl aG aG aG aG
theorem Fl:prog.bytesOf 64=72:=by kernel_rfl
theorem H4:gi prog 29 (fun w cs=>∃c,Hd w (.agg cs.toArray) c):=
 gi.C1 underlying29 aG underlying25 aG aG DX underlying9 underlying9 underlying27 aG Fl Jd
  rfl rfl rfl rfl aG aG aG aG
end Go.Proofs.YtmehkigmnpjcjaaGreatDoor
namespace Go.Fw
open Go.RowKit Go.WideShapes Go.ChangeShapes Go.ChangeAt Go.Deep
section
variable {H:Type} {enc:TypeId×Value→H}
theorem z7{P:Program}{W:World}{name:String}{k:IntKind}{zs:List Int}{g:Nat}(h:Lib.TabIs P W name k zs)(hg:P.globalNamed name=some g):Mem W ⟨g,0,none⟩ (zs.map fun z=>Value.int k z):=fun j v hj=>by
 have hjl:j<zs.length:=by simpa using(List.getElem?_eq_some_iff.1 hj).1
 have e:(⟨g,0,none⟩:Addr).add j=⟨g,j,none⟩:=by unfold Addr.add;split<;>simp_all
 rw [e,h.cell hg j hjl];have:zs[j]? =some (zs.getD j 0):=by simp [List.getD,hjl]
 rw [List.getElem?_map,this]at hj;simpa using hj
end
end Go.Fw
namespace Go.Proofs.YtmehkigmnpjcjaaGreatDoor
open Go.RowKit Go.Fw Go.Pl Go.Proofs.Tryz
theorem Ju:(prog.globals[1]?).map (·.type)=some 231:=by kernel_rfl
theorem uE:prog.globalNamed "recension/digest.keys" =some 1:=by kernel_rfl
theorem vO:prog.cellsOf 192=1:=by kernel_rfl
theorem wZ:prog.cellsOf 231=64:=by kernel_rfl
theorem Cr:(Rows.laid_recension_digest_keys:DataW Unit)=Lib.tabData .u32 (eF.map fun x=>(x.toNat:Int)):=by kernel_rfl
abbrev De:List (String×DataW Unit):=[("recension/digest.keys",Rows.laid_recension_digest_keys)]
theorem vo{W:World}(h:laidMetH prog De W):Mem W ⟨1,0,none⟩ (dF eF):=by
 have h':laidMet prog De W:=h;unfold De at h';rw [Cr]at h';have hT:=Lib.tabIs_of_head uE Ju underlying231 underlying192 vO wZ h';have:=z7 hT uE;rw [List.map_map]at this;exact this
noncomputable def uH(os:Os):World:=
 let w0:=World.holding prog os ⟨#[],#[],[]⟩
 {w0 with heap:=w0.heap.modify 1 fun
   | .cells _ t frozen=>.cells (dF eF).toArray t frozen
   |o=>o}
end Go.Proofs.YtmehkigmnpjcjaaGreatDoor
namespace Go.Fw
open Go.RowKit Go.WideShapes Go.ChangeShapes Go.ChangeAt Go.Deep
section
variable {H:Type} {enc:TypeId×Value→H}
theorem tm{C:Checked}{os:Os}{f:FuncId}{fn:Func}{s:OpenSpec}{c:ChangeSpec}{k:(H:Type)→List (DataW H)→Bool}(hk:s.cond=some k){F:Stop.Interp}(hat:s.at F=c){laid:List (String×DataW Unit)}{conds:List PathCond}{apart fresh handsOn again:Bool}{tb:TypeId}
  (own:ownKnob C.prog.godebug=none) (started:os.Started) (noInit:C.prog.inits.idxOf? f=none) (hfn:C.prog.funcs[f]? =some fn)
  (witness:∃(w:World) (tape:Tape) (i:Input),w.os=os∧(w.forCall tape i).Shaped C.prog∧i.vars=[]∧Input.okWide C.prog (w.forCall tape i) .any w.heap.size f i∧
   s.preRow enc C.prog fn conds apart laid (w.forCall tape i).memory i.args∧({}:Assume).holds C.prog (lone (Frame.enter C.prog f i.args .normal) [] (w.forCall tape i)))
  (hl:laidOutB C.prog=true) (hr:fn.params.toList.all (fun t=>C.prog.readableRec t&&decide (t<C.prog.types.size))=true)
  (hres:fn.resultTypes= #[tb]) (hb:C.prog.underlying tb=some .bool) (hvars:s.vars=[]) (hcv:c.vars=[]) (hbv:s.bare.plain.varTypes C.prog=[])
  (hspec:∀ds:List (DataW H),ds.length=fn.params.toList.length→c.fn H ds={results:=[.lit (.bool true)],args:=ds})
  (contract:∀(W:World) (base:Nat) (args:Array Value) (ds:List (DataW H)) (ps:List MemPlace),
   (∀(j:Nat) t v,fn.params[j]? =some t→args[j]? =some v→Value.okWide C.prog W .any base t v)→
   DataW.TrodAll enc C.prog W 0 (fun _=>true) true fn.params.toList args.toList ds ps→(∀p∈ps,p.block<W.heap.size)→
   (DataW.weightsEach C.prog fn.params.toList ds).all (·≤reachBytes)=true→W.noneFrozen ps→k H ds=true→laidMetH C.prog laid W→
   Calls C.prog f args W (cB fun v W'=>v= .bool true∧Ext W W')):
  ReturnsInHanded {} C os f .any (s.preRow enc C.prog fn conds apart laid) ((s.at F).post enc C.prog fn apart fresh handsOn again):=by
 refine returnsInHanded_of_row own started noInit hfn witness ?_;intro W base args ds gs before hval hW _ hkk hsz hLL _ _;have hkk:=hkk k hk;rw [hat];rw [hvars]at hW;have hW':DataW.Whole enc C.prog fn.params.toList c.vars apart W args.toList ds gs before:=by rw [hcv];exact hW
 have hlt:=hW.lt;obtain⟨p,q,hA,hV,rfl,hfz,_⟩:=hW;obtain⟨rfl,rfl⟩:=trodVars_none hV;rw [hbv]at hsz;simp only [List.append_nil]at hsz hW' hlt hfz hkk;have hlen:ds.length=fn.params.toList.length:=by
  have key:∀(ts:List TypeId) (vs:List Value) (ds:List (DataW H)) (ps:List MemPlace),DataW.TrodAll enc C.prog W 0 (fun _=>true) true ts vs ds ps→ds.length=ts.length:=by
   intro ts;induction ts with
   |nil=>intro vs ds ps h;obtain⟨_,rfl,_⟩:=trodAll_nil h;rfl
   |cons t ts ih=>intro vs ds ps h;obtain⟨_,_,_,_,_,_,_,rfl,_,_,h2⟩:=trodAll_cons h;simp [ih _ _ _ h2]
  exact key _ _ _ _ hA
 refine(contract W base args ds p hval hA (fun x hx=>hlt x hx) hsz hfz hkk hLL).mono fun e W' he=>?_;cases e with
 |returned v=>
  obtain⟨rfl,hx⟩:=he;have hs:=hspec ds hlen;have hbel:=hx.below;have hrr:∀t∈fn.params.toList,C.prog.readableRec t=true∧t<C.prog.types.size:=fun t ht=>by
   have:=List.all_eq_true.1 hr t ht;simpa using this
  refine⟨_,rfl,zT (pa:=p) (pv:=[]) hW' (fun b sp hd=>?_) (fun sp hsp=>?_) (fun sp _=>?_) aL hbel ?_⟩
  ·rw [List.append_nil,hs,hres];exact trodAll_mk1 (shut_bool hb _)
  ·rw [List.append_nil,hs];exact nI hl hbel hrr hA hlt hsp
  ·rw [List.append_nil,hs,hcv];rfl
  ·intro j t r h1 h2;rw [hres]at h1 h2;cases j with
   |zero=>
    simp [Value.resultList]at h1 h2;subst h1;subst h2;exact okWide_bool_mk hb _
   |succ j=>simp at h1
 |panicked ch=>exact he.elim
 |outgrown=>exact he.elim
end
end Go.Fw
namespace Go.Proofs.YtmehkigmnpjcjaaGreatDoor
open Go.RowKit Go.Fw Go.WideShapes Go.ChangeShapes Go.ChangeAt Go.Deep Go.Proofs.Tryz
theorem Eg{H:Type}(d:DataW H):1≤Rows.uptoBulk d:=by
 cases d with
 |lit l=>cases l<;>simp [Rows.uptoBulk]
 |nil=>simp [Rows.uptoBulk]
 |ptr d=>simp [Rows.uptoBulk]
 |slice elems spare=>simp [Rows.uptoBulk]
 |agg parts=>simp [Rows.uptoBulk]
 |iface t d=>simp [Rows.uptoBulk]
 |map entries=>simp [Rows.uptoBulk]
 |held h=>simp [Rows.uptoBulk]
theorem qp{H:Type}{d:DataW H}{l:List (DataW H)}(h:d∈l):Rows.uptoBulk d≤Rows.uptoBulkAll l:=by
 induction l with
 |nil=>cases h
 |cons x r ih=>
  simp only [Rows.uptoBulkAll];cases List.mem_cons.1 h with
  |inl e=>subst e;omega
  |inr e=>have:=ih e;omega
theorem wJ{H:Type}(l:List (DataW H)):l.length≤Rows.uptoBulkAll l:=by
 induction l with
 |nil=>simp [Rows.uptoBulkAll]
 |cons x r ih=>have:=Eg x;simp only [Rows.uptoBulkAll,List.length_cons];omega
theorem y4{H:Type}{l:List (DataW H)}(hk:Rows.uptoSmall H l=true):Rows.uptoBulkAll l≤1048576:=of_decide_eq_true hk
theorem sQ{H:Type}{en:TypeId×Value→H}{P:Program}{w:World}{t e:TypeId}{base:Nat}{spare:Nat→Bool}{held:Bool}{A:Option Addr}{m c fuel:Nat}{d:DataW H}{ps:List MemPlace}(ht:P.underlying t=some (.slice e))(h:DataW.trod en P w base spare held fuel t [.slice A m c]=some (d,ps)):m≤Rows.uptoBulk d:=by
 rcases open_slice ht h with⟨hv,_⟩|⟨a,len,cap,m',n,D,Pl,hv,hb,hl,hm,hmm,hx,hi⟩
 ·cases hv;exact Nat.zero_le _
 ·cases hv
  injection hx with h1 h2
  cases h1
  have:=wJ ((List.range m).map D);simp only [Rows.uptoBulk];simp only [List.length_map,List.length_range]at this;omega
end Go.Proofs.YtmehkigmnpjcjaaGreatDoor
namespace Go.Fw
open Go.RowKit
end Go.Fw
namespace Go.Proofs.YtmehkigmnpjcjaaGreatDoor
open Go.RowKit Go.Fw Go.WideShapes Go.ChangeShapes Go.Proofs.Tryz
theorem Ed:reachBytes=140737488351232:=by decide
end Go.Proofs.YtmehkigmnpjcjaaGreatDoor
namespace Go.Fw
open Go.RowKit
structure qJ(P:Program)(k:TypeId){α:Type} [DecidableEq α](enc:α→Value):Prop where
 eq:∀(w:World) (a b:α),(Op.equal k (enc a) (enc b)).run P w= .ok (decide (a=b)) w
 check:∀(w:World) (em:Bool) (a:α),(Instr.checkKey em 10000 k (enc a)).run P w= .ok () w
 wide:(match P.underlying k with|some (.array _ _)|some (.struct _)=>true|_=>false)=true
 same:∀a:α,Instr.sameBits 10000 (enc a) (enc a)=true
section
variable {P:Program} {k:TypeId} {α β:Type} [DecidableEq α] {enc:α→Value}
def cV(key:β→α)(a:α):List β→Nat→Option (Nat×β)
 | [],_=>none
 |e::r,i=>if key e=a then some (i,e)else cV key a r (i+1)
theorem ot{key:β→α}{a:α}:∀{l:List β} {i:Nat},cV key a l i=none→∀e∈l,key e≠a
 | [],_,_,e,he=>by cases he
 |x::r,i,h,e,he=>by
  unfold cV at h;split at h
  ·cases h
  ·rename_i hne;rcases List.mem_cons.1 he with rfl|he
   ·exact hne
   ·exact ot h e he
theorem i5{key:β→α}{a:α}:∀{l:List β} {i j:Nat} {e:β},cV key a l i=some (j,e)→i≤j∧l[j-i]? =some e∧key e=a
 | [],_,_,_,h=>by cases h
 |x::r,i,j,e,h=>by
  unfold cV at h;split at h
  ·rename_i hk;cases h
   exact⟨Nat.le_refl _,by simp,hk⟩
  ·obtain⟨h1,h2,h3⟩:=i5 h;refine⟨by omega,?_,h3⟩;rw [show j-i=(j-(i+1))+1 by omega,List.getElem?_cons_succ];exact h2
theorem wD{key:β→α}{a:α}:∀{l:List β} {i:Nat},(cV key a l i).map (·.2)=l.find? (fun e=>decide (key e=a))
 | [],_=>rfl
 |x::r,i=>by
  unfold cV;rw [List.find?_cons];by_cases h:key x=a
  ·simp [h]
  ·simp [h,wD (l:=r) (i:=i+1)]
theorem mW(K:qJ P k enc)(w:World)(a:α)(key:β→α)(me:β→MapEntry)(hme:∀e,(me e).key=enc (key e)):∀(l:List β) (i:Nat),
  (Instr.findAsking k (enc a) (l.map me) i).run P w= .ok ((cV key a l i).map fun p=>(p.1,(me p.2).val)) w
 | [],i=>by simp [Instr.findAsking,cV]
 |e::r,i=>by
  simp only [List.map_cons,Instr.findAsking,Sem.run_bind,hme,K.eq,Result.andThen_ok,cV];by_cases h:key e=a
  ·simp [h]
  ·have h':¬a=key e:=fun x=>h x.symm;simp only [h,h',decide_false,Bool.false_eq_true,if_false];exact mW K w a key me hme r (i+1)
theorem run_findKey(K:qJ P k enc)(w:World)(a:α)(key:β→α)(me:β→MapEntry)(hme:∀e,(me e).key=enc (key e))(l:List β):
  (Instr.findKey k (enc a) (l.map me)).run P w= .ok ((cV key a l 0).map fun p=>(p.1,(me p.2).val)) w:=by
 rw [run_findKey_eq w K.wide];exact mW K w a key me hme l 0
end
def xk{β:Type}(me:β→MapEntry)(z:Value):Option (Nat×β)→Value
 |some p=>(me p.2).val
 |none=>z
def b7{β:Type}(w:World)(r:Nat)(me:β→MapEntry)(l:List β)(clock:Nat):Prop:=w.heap[r]? =some (.map (l.map me).toArray clock)
section
variable {β:Type} {w w':World} {r:Nat} {me:β→MapEntry} {l:List β} {clock:Nat} {S:Nat→Prop}
theorem b7.lt(h:b7 w r me l clock):r<w.heap.size:=(Array.getElem?_eq_some_iff.1 h).1
theorem b7.aA(h:b7 w r me l clock)(hc:aE S w w')(hs:¬S r):b7 w' r me l clock:=(hc.block r h.lt hs).trans h
theorem b7.ext(h:b7 w r me l clock)(hc:Ext w w'):b7 w' r me l clock:=h.aA hc (fun f=>f)
end
theorem lZ{S:Nat→Prop}{w:World}{r:Nat}{o:Obj}(h:S r):aE S w {w with heap:=w.heap.setIfInBounds r o}:=
 ⟨rfl,rfl,rfl,by simp,fun k hk hn=>by
  have:r≠k:=by rintro rfl;exact hn h
  simp [Array.getElem?_setIfInBounds,this],Nat.le_refl _⟩
theorem nM{w:World}{r:Nat}{o:Obj}(h:r<w.heap.size):({w with heap:=w.heap.setIfInBounds r o}:World).heap[r]? =some o:=by
 simp [Array.getElem?_setIfInBounds,h]
def Su(P:Program)(n:NN)(fr:Fr)(o:Op)(ty:TypeId)(w:World)(R:World→Prop):Prop:=
 ∀a (o':Oper),o'.op=o→o'.type=ty→ju n a fr→∃w',((execOp a.eval o').run P w= .ok .skip w'∨∃v,(execOp a.eval o').run P w= .ok (.value v) w')∧R w'
section
variable {P:Program} {n:NN} {Φ:Exit→Fr→World→Prop} {fr:Fr} {w:World} {ty:TypeId} {R:World→Prop}
theorem WL.su{ops:Array Oper}{rest:List Oper}{o:Op}{pos:String}{aft:Array Edge}
  (hs:Su P n fr o ty w R) (h:∀w',R w'→WL P ops n Φ rest fr w'):WL P ops n Φ (⟨none,o,ty,pos,aft,none⟩::rest) fr w:=fun a ha=>
 wpList_plain rfl fun K hK=>by
  obtain⟨w',hr,hR⟩:=hs a ⟨none,o,ty,pos,aft,none⟩ rfl rfl ha;unfold Oper.wp;rcases hr with hr|⟨v,hr⟩
  ·rw [hr];exact hK _ _ (h w' hR _ ha)
  ·rw [hr];exact hK _ _ (h w' hR _ ha)
theorem St.makeMap{t:TypeId}:St P n fr (.makeMap t none) ty w (fun v w'=>∃r,v= .map (some r)∧w.heap.size≤r∧(∀(β:Type) (me:β→MapEntry),b7 w' r me ([]:List β) 0)∧Ext w w'):=fun a o' ho hty ha=>by
 refine⟨.map (some w.heap.size),w.alloc (.map #[] 0),?_,w.heap.size,rfl,Nat.le_refl _,fun β me=>?_,aE.alloc _⟩
 ·simp [execOp,ho,Instr.makeMap,newObj,Sem.run]
 ·exact heap_alloc_new w _
theorem St.Er{t k e:TypeId}{x:Operand}{q:IntKind}{i:Int}(hT:P.underlying t=some (.map k e))(hx:ev fr x=some (.int q i)):St P n fr (.makeMap t (some x)) ty w (fun v w'=>∃r,v= .map (some r)∧w.heap.size≤r∧(∀(β:Type) (me:β→MapEntry),b7 w' r me ([]:List β) 0)∧Ext w w'):=fun a o' ho hty ha=>by
 refine⟨.map (some w.heap.size),w.alloc (.map #[] 0),?_,w.heap.size,rfl,Nat.le_refl _,fun β me=>?_,aE.alloc _⟩
 ·simp [execOp,ho,Instr.makeMap,newObj,run_underlying hT,ha.ev hx,asInt,Sem.run];rfl
 ·exact heap_alloc_new w _
theorem Y.FV{x:Operand}{t k e:TypeId}{r clock:Nat}{β:Type}{me:β→MapEntry}{l:List β}(hT:P.underlying t=some (.map k e))(hx:ev fr x=some (.map (some r)))(hm:b7 w r me l clock):
  Yw P n fr (.call {callee:= .builtin .len,args:=#[x],argTypes:=#[t]}) ty w (.int .i64 (l.length:Int)) w:=fun a o' ho _ ha=>by
 have h1:=MapKept.run_getObj_map (P:=P) hm;simp [execOp,ho,resolve,invoke,builtin,ha.ev hx,Builtin.len_,run_underlying hT,h1,goInt]
section keyed
variable {α β:Type} [DecidableEq α] {enc:α→Value} {key:β→α} {me:β→MapEntry} {l:List β} {clock r:Nat} {t k e:TypeId}
theorem Y.mC{x y:Operand}{a:α}{z:Value}(K:qJ P k enc)(hme:∀e,(me e).key=enc (key e))(hT:P.underlying t=some (.map k e))(hz:∀w,(zeroValue e).run P w= .ok z w)
  (hx:ev fr x=some (.map (some r))) (hy:ev fr y=some (enc a)) (hm:b7 w r me l clock):
  Yw P n fr (.lookup t x y true) ty w (.tuple #[xk me z (cV key a l 0),.bool (cV key a l 0).isSome]) w:=fun b o' ho _ ha=>by
 have h1:=MapKept.run_getObj_map (P:=P) hm;have h2:=run_findKey K w a key me hme l;have h3:=fun em=>K.check w em a;cases hf:cV key a l 0 with
 |none=>rw [hf]at h2;simp [xk,execOp,ho,ha.ev hx,ha.ev hy,Instr.lookup,run_underlying hT,h1,h3,h2,hz]
 |some p=>rw [hf]at h2;simp [xk,execOp,ho,ha.ev hx,ha.ev hy,Instr.lookup,run_underlying hT,h1,h3,h2]
theorem Y.lookup{x y:Operand}{a:α}{z:Value}(K:qJ P k enc)(hme:∀e,(me e).key=enc (key e))(hT:P.underlying t=some (.map k e))(hz:∀w,(zeroValue e).run P w= .ok z w)
  (hx:ev fr x=some (.map (some r))) (hy:ev fr y=some (enc a)) (hm:b7 w r me l clock):
  Yw P n fr (.lookup t x y false) ty w (xk me z (cV key a l 0)) w:=fun b o' ho _ ha=>by
 have h1:=MapKept.run_getObj_map (P:=P) hm;have h2:=run_findKey K w a key me hme l;have h3:=fun em=>K.check w em a;cases hf:cV key a l 0 with
 |none=>rw [hf]at h2;simp [xk,execOp,ho,ha.ev hx,ha.ev hy,Instr.lookup,run_underlying hT,h1,h3,h2,hz]
 |some p=>rw [hf]at h2;simp [xk,execOp,ho,ha.ev hx,ha.ev hy,Instr.lookup,run_underlying hT,h1,h3,h2]
theorem Y.o9{x y:Operand}{a:α}{v:Value}{p:Nat×β}(K:qJ P k enc)(hme:∀e,(me e).key=enc (key e))(hT:P.underlying t=some (.map k e))
  (hx:ev fr x=some (.map (some r))) (hy:ev fr y=some (enc a)) (hm:b7 w r me l clock) (hf:cV key a l 0=some p) (hv:(me p.2).val=v):
  Yw P n fr (.lookup t x y false) ty w v w:=fun b o' ho _ ha=>by
 have h1:=MapKept.run_getObj_map (P:=P) hm;have h2:=run_findKey K w a key me hme l;have h3:=fun em=>K.check w em a;rw [hf]at h2;simp [execOp,ho,ha.ev hx,ha.ev hy,Instr.lookup,run_underlying hT,h1,h3,h2,hv]
theorem Su.qu{x y z:Operand}{a:α}{v:Value}{b:β}(K:qJ P k enc)(hme:∀e,(me e).key=enc (key e))(hT:P.underlying t=some (.map k e))
  (hx:ev fr x=some (.map (some r))) (hy:ev fr y=some (enc a)) (hzv:ev fr z=some v) (hm:b7 w r me l clock) (hf:cV key a l 0=none) (hb:me b={key:=enc a,val:=v,born:=clock}):
  Su P n fr (.mapUpdate t x y z) ty w (fun w'=>b7 w' r me (l++[b]) (clock+1)∧aE (·=r) w w'):=fun c o' ho _ ha=>by
 have h1:=MapKept.run_getObj_map (P:=P) hm;have h2:=run_findKey K w a key me hme l;have h3:=fun em=>K.check w em a;rw [hf]at h2;refine⟨{w with heap:=w.heap.setIfInBounds r (.map ((l++[b]).map me).toArray (clock+1))},.inl ?_,nM hm.lt,lZ rfl⟩;have h4:=MapKept.run_setObj_map (P:=P) (.map ((l.map me).toArray.push {key:=enc a,val:=v,born:=clock}) (clock+1)) hm;simp only [execOp,ho,ha.ev hx,ha.ev hy,ha.ev hzv,Instr.mapUpdate,Sem.run_bind,run_underlying hT,h1,Result.andThen_ok,h3,h2,Option.map_none,h4];simp [hb]
end keyed
end
end Go.Fw
namespace Go.Fw
open Go.RowKit
theorem mapM_some{α β:Type}{f:α→Option β}:∀{l:List α},(∀x∈l,∃y,f x=some y)→∃ys,l.mapM f=some ys
 | [],_=>⟨[],rfl⟩
 |x::r,h=>by
  obtain⟨y,hy⟩:=h x aL;obtain⟨ys,hys⟩:=mapM_some (l:=r) fun z hz=>h z (by simp [hz]);exact⟨y::ys,by simp [List.mapM_cons,hy,hys]⟩
theorem sameBits_self{n:Nat}:∀{cs:List Value},(∀u∈cs,Instr.sameBits n u u=true)→Instr.sameBits (n+1) (.agg cs.toArray) (.agg cs.toArray)=true:=by
 intro cs h;simp only [Instr.sameBits,beq_self_eq_true,Bool.true_and];rw [List.all_eq_true];rintro⟨x,y⟩ hp;have hxy:x=y∧x∈cs:=by
  obtain⟨i,hi⟩:=List.mem_iff_getElem?.1 hp;rw [List.getElem?_zip_eq_some]at hi;obtain⟨h1,h2⟩:=hi;exact⟨Option.some.inj (h1.symm.trans h2),List.mem_of_getElem? h1⟩
 obtain⟨rfl,hx⟩:=hxy;exact h x hx
end Go.Fw
namespace Go.Proofs.YtmehkigmnpjcjaaGreatDoor
open Go.RowKit Go.Fw Go.Proofs.Tryz
theorem Et:prog.cellsOf 5=1:=by kernel_rfl
theorem qf:prog.cellsOf 42=32:=by kernel_rfl
theorem yE(D:Nat)(b:UInt8):prog.keyLits (D+1) 5 [bc b]=some [.int .u8 (b.toNat:Int)]:=by
 have hw:(Lit.int .u8 (b.toNat:Int)).wf=true:=by
  have:=b.toNat_lt;simp only [Lit.wf,IntKind.min,IntKind.max,IntKind.bits,IntKind.signed];simp;omega
 simp only [Program.keyLits,underlying5,bc,hw];simp
theorem qZ(D:Nat)(d:aD):∃la,prog.keyLits (D+2) 42 (aN d)=some la:=by
 obtain⟨ys,hys⟩:=mapM_some (l:=List.range 32) (f:=fun i=>prog.keyLits (D+1) 5 (((aN d).drop (i*1)).take 1)) (by
  intro i hi;rw [List.mem_range]at hi;have hd:=d.2;have:((aN d).drop (i*1)).take 1=[bc (d.1[i]'ai)]:=by
   rw [Nat.mul_one,aN,az,←List.map_drop,List.drop_eq_getElem_cons ai];rfl
  rw [this];exact⟨_,yE D _⟩)
 refine⟨ys.flatten,?_⟩;have e:prog.keyLits ((D+1)+1) 42 (aN d)=((List.range 32).mapM fun i=>prog.keyLits (D+1) 5 (((aN d).drop (i*1)).take 1)).map List.flatten:=by
  conv=>lhs;unfold Program.keyLits
  simp only [underlying42,qf,Et,ag,if_true]
 rw [show D+2=(D+1)+1 from rfl,e,hys];rfl
theorem iP:qJ prog 42 (fun d:aD=>cU d) where
 eq w a b:=mM 9998 a b w
 check w em a:=by
  obtain⟨la,hla⟩:=qZ 3 a;exact run_checkKey_deep em 9997 3 42 aG w 5 (cU a) la (by simp only [Value.formed,underlying42,qf];simp [ag]) (by simpa [Value.cells]using hla)
 wide:=by rw [underlying42]
 same a:=sameBits_self (n:=9999) fun u hu=>by
  simp only [aN,az,List.mem_map]at hu;obtain⟨b,_,rfl⟩:=hu;simp [bc,Instr.sameBits]
end Go.Proofs.YtmehkigmnpjcjaaGreatDoor
