/- Parts of a proof: what its last text leans on. No condition. -/
import Derived.Stop.BytesEq
import Derived.ProofKit
import Derived.SizedLaws
import Derived.ChangeSame
import Derived.Deep.Slices
import Derived.OpenShut
import Derived.Test.YtmehkigmnpjcjaaGreatDoorK01
set_option linter.unusedSimpArgs false
set_option linter.unusedVariables false
namespace Go.Fw
open Go.RowKit
section Y
variable {P:Program} {n:NN} {fr:Fr} {w:World} {ty:TypeId}
def iD:TypeDesc→Bool
 | .struct _| .array _ _=>false
 |_=>true
theorem q4{t:TypeId}{d:TypeDesc}(hT:P.underlying t=some d)(hd:iD d=true):(isAgg t).run P w= .ok false w:=by
 unfold isAgg;rw [Sem.run_bind,run_underlying hT];cases d<;>simp_all [iD]
theorem lM{t:TypeId}{d:TypeDesc}(hT:P.underlying t=some d)(hd:iD d=false):(isAgg t).run P w= .ok true w:=by
 unfold isAgg;rw [Sem.run_bind,run_underlying hT];cases d<;>simp_all [iD]
theorem b5{t:TypeId}{k:Nat}(hS:(P.info? t).map (·.size)=some k):(sizeOf t).run P w= .ok k w:=by
 cases h:P.info? t with
 |none=>simp [h]at hS
 |some i=>simp [h]at hS;simp [sizeOf,typeInfo,h,hS]
theorem vt{t:TypeId}{d:TypeDesc}{a:Addr}{v:Value}(hT:P.underlying t=some d)(hd:iD d=true)(hc:w.cell? a=some v):(loadVar t a).run P w= .ok v w:=by
 simp [loadVar,q4 hT hd,hc]
theorem l6{t:TypeId}{d:TypeDesc}{a:Addr}{cs:List Value}(hT:P.underlying t=some d)(hd:iD d=false)(hS:(P.info? t).map (·.size)=some cs.length)(hm:Mem w a cs):
  (loadVar t a).run P w= .ok (.agg cs.toArray) w:=by
 have h1:=run_loadCells_list (P:=P) w a cs hm;simp [loadVar,lM hT hd,b5 hS,h1]
theorem Y.ah{x:Operand}{t:TypeId}{d:TypeDesc}{a:Addr}{v:Value}(hT:P.underlying t=some d)(hx:ev fr x=some (.pointer (some a)))(hc:w.cell? a=some v)(hd:iD d=true):
  Yw P n fr (.load t x) ty w v w:=fun b o' ho _ ha=>by
 simp [execOp,ho,ha.ev hx,Instr.loadAt,Instr.sureAddr,vt hT hd hc]
theorem Y.load{x:Operand}{t:TypeId}{d:TypeDesc}{a:Addr}{cs:List Value}(hT:P.underlying t=some d)(hx:ev fr x=some (.pointer (some a)))(hm:Mem w a cs)
  (hS:(P.info? t).map (·.size)=some cs.length) (hd:iD d=false):Yw P n fr (.load t x) ty w (.agg cs.toArray) w:=fun b o' ho _ ha=>by
 simp [execOp,ho,ha.ev hx,Instr.loadAt,Instr.sureAddr,l6 hT hd hS hm]
def bh(P:Program)(t:TypeId)(k off:Nat):Prop:=∃fs f m,P.underlying t=some (.struct fs)∧fs[k]? =some f∧(P.info? f.type).map (·.size)=some m∧m≠0∧f.offset=off
theorem Y.fieldAddr{x:Operand}{t:TypeId}{k off:Nat}{a:Addr}(h:bh P t k off)(hx:ev fr x=some (.pointer (some a))):Yw P n fr (.fieldAddr t x k) ty w (.pointer (some (a.add off))) w:=fun b o' ho _ ha=>by
 obtain⟨fs,f,m,hT,hf,hS,hm,rfl⟩:=h;simp [execOp,ho,ha.ev hx,Instr.fieldAt,Instr.sureAddr,run_underlying hT,hf,fieldPlace,b5 hS,hm]
theorem Y.indexAddr{x y:Operand}{t e:TypeId}{a:Addr}{m c k:Nat}{ki:IntKind}{i:Int}(hT:P.underlying t=some (.slice e))(hx:ev fr x=some (.slice (some a) m c))(hy:ev fr y=some (.int ki i))
  (hS:(P.info? e).map (·.size)=some k) (h0:0≤i) (h1:i<(m:Int)):Yw P n fr (.indexAddr t x y) ty w (.pointer (some (a.add (i.toNat*k)))) w:=fun b o' ho _ ha=>by
 simp [execOp,ho,ha.ev hx,ha.ev hy,Instr.indexAt,asIntOf,run_underlying hT,h0,h1,b5 hS]
theorem Y.jY{x y:Operand}{t e:TypeId}{a:Addr}{m k:Nat}{ki:IntKind}{i:Int}(hT:P.underlying t=some (.array m e))(hx:ev fr x=some (.pointer (some a)))(hy:ev fr y=some (.int ki i))
  (hS:(P.info? e).map (·.size)=some k) (h0:0≤i) (h1:i<(m:Int)):Yw P n fr (.indexAddr t x y) ty w (.pointer (some (a.add (i.toNat*k)))) w:=fun b o' ho _ ha=>by
 simp [execOp,ho,ha.ev hx,ha.ev hy,Instr.indexAt,Instr.sureAddr,asIntOf,run_underlying hT,h0,h1,b5 hS]
theorem Y.af{x y:Operand}{t e:TypeId}{a:Addr}{m c k:Nat}{ki:IntKind}{i:Nat}(hT:P.underlying t=some (.slice e))(hx:ev fr x=some (.slice (some a) m c))(hy:ev fr y=some (.int ki (i:Int)))
  (hS:(P.info? e).map (·.size)=some k) (h1:i<m):Yw P n fr (.indexAddr t x y) ty w (.pointer (some (a.add (i*k)))) w:=Y.indexAddr hT hx hy hS ai ai
theorem Y.aW{x y:Operand}{t e:TypeId}{a:Addr}{m k:Nat}{ki:IntKind}{i:Nat}(hT:P.underlying t=some (.array m e))(hx:ev fr x=some (.pointer (some a)))(hy:ev fr y=some (.int ki (i:Int)))
  (hS:(P.info? e).map (·.size)=some k) (h1:i<m):Yw P n fr (.indexAddr t x y) ty w (.pointer (some (a.add (i*k)))) w:=Y.jY hT hx hy hS ai ai
theorem Y.makeFunc{f:Fn}{xs:List Operand}{vs:List Value}(hx:pY fr xs=some vs):Yw P n fr (.makeFunc f #[] xs.toArray) ty w (.func f #[] vs.toArray) w:=fun b o' ho _ ha=>by
 have:=ha.pY hx;simp [execOp,ho,Instr.makeFunc,this]
theorem Y.eQ{t:TypeId}{v:Value}(hr:(Instr.build t #[]).run P w= .ok v w):Yw P n fr (.build t #[]) ty w v w:=fun b o' ho _ ha=>by
 simp [execOp,ho,hr]
theorem Y.lp{x:Operand}{t e:TypeId}{m k:Nat}{a:Addr}(hT:P.underlying t=some (.array m e))(hx:ev fr x=some (.pointer (some a)))(hS:(P.info? e).map (·.size)=some k):
  Yw P n fr (.slice t x none none none) ty w (.slice (some a) m m) w:=fun b o' ho _ ha=>by
 simp [execOp,ho,ha.ev hx,Instr.sliceAt,Instr.sureAddr,run_underlying hT,Instr.sliceBounds,b5 hS];intro _;simp [Addr.add]
end Y
section rules
variable {P:Program} {n:NN} {Φ:Exit→Fr→World→Prop} {fr:Fr} {w:World}
theorem WL.box{ops:Array Oper}{rest:List Oper}{d:Nat}{t:TypeId}{x:Operand}{ty:TypeId}{pos:String}{aft:Array Edge}{v:Value}{cs:List Value}
  (hx:ev fr x=some v) (hv:v.cells=cs.toArray) (hd:d<n.1)
  (h:∀g w',Ext w w'→w.heap.size≤g→aK w' g t cs→WL P ops n Φ rest ((d,.pointer (some ⟨g,0,none⟩))::fr) w'):
  WL P ops n Φ (⟨some d,.box t x,ty,pos,aft,none⟩::rest) fr w:=fun a ha=>
 wpList_plain rfl fun K hK=>by
  have hrun:(execOp a.eval ⟨some d,.box t x,ty,pos,aft,none⟩).run P w= .ok (.value (.pointer (some ⟨w.heap.size,0,none⟩))) (w.alloc (.cells cs.toArray t)):=by
   simp [execOp,ha.ev hx,Instr.box,newVar,newRow,hv]
  unfold Oper.wp;rw [hrun];exact hK _ _ (h w.heap.size _ (aE.alloc _) (Nat.le_refl _) (aK.new w t cs) _ (ha.put hd _))
theorem WL.alloc{ops:Array Oper}{rest:List Oper}{d:Nat}{t:TypeId}{ty:TypeId}{pos:String}{aft:Array Edge}{i:TypeInfo}{z:Value}{cs:List Value}
  (hi:P.info? t=some i) (hz:i.zero=some z) (hv:z.cells=cs.toArray) (hd:d<n.1)
  (h:∀g w',Ext w w'→w.heap.size≤g→aK w' g t cs→WL P ops n Φ rest ((d,.pointer (some ⟨g,0,none⟩))::fr) w'):
  WL P ops n Φ (⟨some d,.alloc t,ty,pos,aft,none⟩::rest) fr w:=fun a ha=>
 wpList_plain rfl fun K hK=>by
  have hrun:(execOp a.eval ⟨some d,.alloc t,ty,pos,aft,none⟩).run P w= .ok (.value (.pointer (some ⟨w.heap.size,0,none⟩))) (w.alloc (.cells cs.toArray t)):=by
   simp [execOp,Instr.alloc,zeroValue,typeInfo,hi,hz,newVar,newRow,hv]
  unfold Oper.wp;rw [hrun];exact hK _ _ (h w.heap.size _ (aE.alloc _) (Nat.le_refl _) (aK.new w t cs) _ (ha.put hd _))
theorem gU{g:Nat}{t:TypeId}{pre old post new:List Value}(hb:aK w g t (pre++old++post))(hl:new.length=old.length)(h1:∀u∈new,u.oneCell'=true):
  ∃w',(storeCells ⟨g,pre.length,none⟩ new).run P w= .ok () w'∧aE (·=g) w w'∧aK w' g t (pre++new++post):=by
 have hst:=run_storeCells_at P g pre.length t new 0 (pre++old++post).toArray w hb (by simp;omega) h1;simp only [Nat.add_zero]at hst;have heq:((pre++old++post).toArray.toList.take pre.length++new++(pre++old++post).toArray.toList.drop (pre.length+new.length)).toArray=(pre++new++post).toArray:=by
  congr 1;rw [List.toList_toArray,List.append_assoc pre old post,List.take_left,hl,←List.append_assoc pre old post];congr 1;rw [show pre.length+old.length=(pre++old).length by simp,List.drop_left]
 rw [heq]at hst;refine⟨_,hst,⟨rfl,rfl,rfl,by simp,fun k hk hn=>setRow_other w g k _ hn,Nat.le_refl _⟩,setRow_heap w g _ _ t _ hb⟩
theorem WL.store{ops:Array Oper}{rest:List Oper}{t e:TypeId}{x y:Operand}{ty:TypeId}{pos:String}{aft:Array Edge}{v:Value}{g:Nat}{pre old post new:List Value}{A:Addr}
  (hx:ev fr x=some (.pointer (some A))) (hA:A=⟨g,pre.length,none⟩) (hy:ev fr y=some v) (hv:v.cells=new.toArray) (hS:(P.info? t).map (·.size)=some new.length)
  (hb:aK w g e (pre++old++post)) (hl:new.length=old.length) (h1:∀u∈new,u.oneCell'=true)
  (h:∀w',aE (·=g) w w'→aK w' g e (pre++new++post)→WL P ops n Φ rest fr w'):
  WL P ops n Φ (⟨none,.store t x y,ty,pos,aft,none⟩::rest) fr w:=fun a ha=>
 wpList_plain rfl fun K hK=>by
  obtain⟨w',hst,hc,hb'⟩:=gU (P:=P) hb hl h1;have hrun:(execOp a.eval ⟨none,.store t x y,ty,pos,aft,none⟩).run P w= .ok .skip w':=by
   simp [execOp,ha.ev hx,ha.ev hy,Instr.storeAt,Instr.sureAddr,storeVar,b5 hS,hv,hA,hst]
  unfold Oper.wp;rw [hrun];exact hK _ _ (h w' hc hb' _ ha)
theorem WL.dH{ops:Array Oper}{rest:List Oper}{d:Nat}{t:TypeId}{x:Operand}{ty ty':TypeId}{pos pos':String}{aft aft':Array Edge}{v:Value}{cs zs:List Value}{i:TypeInfo}{z:Value}
  (hi:P.info? t=some i) (hz:i.zero=some z) (hzv:z.cells=zs.toArray) (hi':i.size=cs.length) (hlen:cs.length=zs.length)
  (hx:ev fr x=some v) (hxd:x≠.tmp d) (hv:v.cells=cs.toArray) (h1:∀u∈cs,u.oneCell'=true) (hd:d<n.1)
  (h:∀g w',Ext w w'→w.heap.size≤g→aK w' g t cs→WL P ops n Φ rest ((d,.pointer (some ⟨g,0,none⟩))::fr) w'):
  WL P ops n Φ (⟨some d,.alloc t,ty,pos,aft,none⟩::⟨none,.store t (.tmp d) x,ty',pos',aft',none⟩::rest) fr w:=by
 refine WL.alloc hi hz hzv hd fun g w1 hw1 hg hb=>?_;have hx':ev ((d,.pointer (some ⟨g,0,none⟩))::fr) x=some v:=by
  cases x with
  |tmp u=>
   have hne:Nat.beq d u=false:=by
    rw [Bool.eq_false_iff];intro e;exact hxd (by rw [Nat.eq_of_beq_eq_true e])
   simp only [ev,Fr.get,hne,cond_false];exact hx
  |_=>exact hx
 have hself:ev ((d,.pointer (some ⟨g,0,none⟩))::fr) (.tmp d)=some (.pointer (some ⟨g,0,none⟩)):=by
  have:Nat.beq d d=true:=Nat.beq_refl d;simp only [ev,Fr.get,this,cond_true]
 refine WL.store (pre:=[]) (old:=zs) (post:=[]) (new:=cs) hself rfl hx' hv (by simp [hi,hi']) (by simpa using hb) hlen h1 fun w2 hc hb2=>?_;refine h g w2 ((hw1.aA (S:=(·=g))).trans hc (fun _ _ h=>h)|>.sD fun k hk e=>?_) hg (by simpa using hb2);omega
theorem WL.xw{ops:Array Oper}{rest:List Oper}{d:Nat}{t:TypeId}{x:Operand}{ty ty':TypeId}{pos pos':String}{aft aft':Array Edge}{v:Value}
  (hI:(P.info? t).map (fun i=>(i.zero.map fun z=>z.cells.size,i.size))=some (some 1,1)) (hx:ev fr x=some v) (hxd:x≠.tmp d) (hv:v.cells= #[v]) (h1:v.oneCell'=true) (hd:d<n.1)
  (h:∀g w',Ext w w'→w.heap.size≤g→aK w' g t [v]→WL P ops n Φ rest ((d,.pointer (some ⟨g,0,none⟩))::fr) w'):
  WL P ops n Φ (⟨some d,.alloc t,ty,pos,aft,none⟩::⟨none,.store t (.tmp d) x,ty',pos',aft',none⟩::rest) fr w:=by
 obtain⟨i,hi,hp⟩:=Option.map_eq_some_iff.1 hI;injection hp with hp1 hp2
 obtain⟨z,hz,hzs⟩:=Option.map_eq_some_iff.1 hp1;exact WL.dH (zs:=z.cells.toList) hi hz aL (by rw [hp2];rfl) (by simp [hzs]) hx hxd hv (by intro u hu;simp at hu;subst hu;exact h1) hd h
theorem WL.yX{ops:Array Oper}{rest:List Oper}{d:Nat}{t:TypeId}{ty:TypeId}{pos:String}{aft:Array Edge}{z:Value}
  (hI:(P.info? t).map (fun i=>i.zero)=some (some z)) (hz:z.cells= #[z]) (hd:d<n.1)
  (h:∀g w',Ext w w'→w.heap.size≤g→aK w' g t [z]→WL P ops n Φ rest ((d,.pointer (some ⟨g,0,none⟩))::fr) w'):
  WL P ops n Φ (⟨some d,.alloc t,ty,pos,aft,none⟩::rest) fr w:=by
 obtain⟨i,hi,hp⟩:=Option.map_eq_some_iff.1 hI;exact WL.alloc (cs:=[z]) hi hp hz hd h
end rules
end Go.Fw
namespace Go.Fw
open Go.RowKit
def bc(b:UInt8):Value:= .int .u8 (b.toNat:Int)
def az(l:List UInt8):List Value:=l.map bc
theorem aS(l:List UInt8):(az l).length=l.length:=by simp [az]
theorem oe{l:List UInt8}{i:Nat}{b:UInt8}(h:l[i]? =some b):(az l)[i]? =some (bc b):=by simp [az,h]
theorem cr(a b:List UInt8):az (a++b)=az a++az b:=by simp [az]
theorem HD{a b:UInt8}(h:bc a=bc b):a=b:=by
 unfold bc at h;injection h with _ h
 exact UInt8.toNat_inj.1 ai
theorem s6:∀{a b:List UInt8},az a=az b→a=b
 | [],[],_=>rfl
 | [],_::_,h=>by simp [az]at h
 |_::_,[],h=>by simp [az]at h
 |x::a,y::b,h=>by
  simp only [az,List.map_cons,List.cons.injEq]at h;rw [HD h.1,s6 (a:=a) (b:=b) h.2]
theorem iW{l:List UInt8}:∀u∈az l,u.oneCell'=true:=by
 intro u hu;simp only [az,List.mem_map]at hu;obtain⟨b,_,rfl⟩:=hu;rfl
def bs(l:List UInt8):ByteArray:=⟨l.toArray⟩
theorem uh(l:List UInt8):(bs l).toList=l:=by rw [ByteArray.toList_eq];rfl
theorem bT(l:List UInt8):(bs l).size=l.length:=by show l.toArray.size=_;simp
theorem AN(s:ByteArray):bs s.toList=s:=by rw [ByteArray.toList_eq];rfl
theorem bR(s:ByteArray):s.toList.length=s.size:=by rw [ByteArray.toList_eq];rfl
theorem foldl_push:∀(l:List UInt8) (s:ByteArray),(l.map fun b=>(b.toNat:Int)).foldl (fun r n=>r.push (UInt8.ofNat n.toNat)) s=⟨s.data++l.toArray⟩
 | [],s=>by simp
 |b::l,s=>by
  simp only [List.map_cons,List.foldl_cons,Int.toNat_natCast,UInt8.ofNat_toNat];rw [foldl_push l (s.push b)];simp [ByteArray.push]
theorem qq{P:Program}{w:World}{A:Option Addr}{m c:Nat}{l:List UInt8}(hl:l.length=m)(hA:0<m→∃a,A=some a∧Mem w a (az l))(hn:A=none→m=0):
  (Conv.bytesToString (.slice A m c)).run P w= .ok (.string (bs l)) w:=by
 cases A with
 |none=>
  have h0:=hn rfl;subst h0;have:l=[]:=List.eq_nil_of_length_eq_zero hl;subst this;rfl
 |some a=>
  have hm:Mem w a (az l):=by
   rcases Nat.eq_zero_or_pos m with h0|h0
   ·subst h0;have:l=[]:=List.eq_nil_of_length_eq_zero hl;subst this;exact Mem.nil
   ·obtain⟨a',h,hm⟩:=hA h0;injection h with h
    subst h;exact hm
  have h1:=run_loadCells_list (P:=P) w a (az l) hm;rw [aS,hl]at h1;have h2:(az l).toArray=((l.map fun b=>(b.toNat:Int)).map (Value.int .u8)).toArray:=by simp [az,bc,Function.comp_def]
  rw [h2]at h1;rw [run_bytesToString w a m c _ h1,foldl_push];have h3:(ByteArray.empty.data++l.toArray)=l.toArray:=by
   have:ByteArray.empty.data= #[]:=rfl;rw [this];simp
  rw [h3];rfl
theorem Y.dy{P:Program}{n:NN}{fr:Fr}{w:World}{ty:TypeId}{x:Operand}{s d e:TypeId}{A:Option Addr}{m c:Nat}{l:List UInt8}
  (hs:P.underlying s=some (.slice e)) (he:P.underlying e=some (.int .u8)) (hd:P.underlying d=some .string)
  (hx:ev fr x=some (.slice A m c)) (hl:l.length=m) (hA:0<m→∃a,A=some a∧Mem w a (az l)) (hn:A=none→m=0):
  Yw P n fr (.convert s d x) ty w (.string (bs l)) w:=fun b o' ho _ ha=>by
 have h1:=run_convert_bytes_string (P:=P) w s d e A m c hs he hd;rw [qq hl hA hn]at h1;simp [execOp,ho,ha.ev hx,h1]
theorem Y.Am{P:Program}{n:NN}{fr:Fr}{w:World}{ty:TypeId}{x y:Operand}{p q:ByteArray}{t t':TypeId}(hx:ev fr x=some (.string p))(hy:ev fr y=some (.string q)):
  Yw P n fr (.binOp .lss t x y t') ty w (.bool (Op.bytesLess p.toList q.toList)) w:=Y.bin hx hy (by simp [eqGuard_at_string]) (by simp [binOp,Op.stringOp])
abbrev aD:={l:List UInt8//l.length=32}
def aD.zero:aD:=⟨List.replicate 32 0,by simp⟩
def aN(d:aD):List Value:=az d.1
theorem ag(d:aD):(aN d).length=32:=by rw [aN,aS,d.2]
abbrev cU(d:aD):Value:= .agg (aN d).toArray
structure aF where
 own:Bool
 c:aD
 n:Int
 deriving DecidableEq
def aF.zero:aF:=⟨false,aD.zero,0⟩
def aX(r:aF):List Value:= .bool r.own::(aN r.c++[.int .i64 r.n])
theorem ax(r:aF):(aX r).length=34:=by simp [aX,ag]
abbrev dE(r:aF):Value:= .agg (aX r).toArray
structure ct where
 kind:Int
 left:Bool
 at_:aF
 byte:UInt8
 deriving DecidableEq
def eM(x:ct):List Value:= .int .i64 x.kind:: .bool x.left::(aX x.at_++[bc x.byte])
theorem aC(x:ct):(eM x).length=37:=by simp [eM,ax]
abbrev Bz(x:ct):Value:= .agg (eM x).toArray
section cells
theorem bV{d:aD}:∀u∈aN d,u.oneCell'=true:=iW
theorem dN{r:aF}:∀u∈aX r,u.oneCell'=true:=by
 intro u hu;simp only [aX,List.mem_cons,List.mem_append,List.not_mem_nil,or_false]at hu;rcases hu with rfl|hu|rfl
 ·rfl
 ·exact bV u hu
 ·rfl
theorem jM{x:ct}:∀u∈eM x,u.oneCell'=true:=by
 intro u hu;simp only [eM,List.mem_cons,List.mem_append,List.not_mem_nil,or_false]at hu;rcases hu with rfl|rfl|hu|rfl
 ·rfl
 ·rfl
 ·exact dN u hu
 ·rfl
theorem lK(r:aF):(aX r)[33]? =some (.int .i64 r.n):=by
 simp only [aX,List.getElem?_cons_succ];rw [List.getElem?_append_right (by rw [ag];omega),ag];rfl
theorem uf(x:ct):(eM x)[36]? =some (bc x.byte):=by
 simp only [eM,List.getElem?_cons_succ];rw [List.getElem?_append_right (by rw [ax];omega),ax];rfl
variable {w:World} {a:Addr}
theorem Mem.yo{r:aF}(h:Mem w a (aX r)):w.cell? (a.add 0)=some (.bool r.own):=h.cell 0 rfl
theorem Mem.mr{r:aF}(h:Mem w a (aX r)):Mem w (a.add 1) (aN r.c):=h.sub 1 fun j v hj=>by
 have hlt:j<(aN r.c).length:=(List.getElem?_eq_some_iff.1 hj).1;rw [Nat.add_comm,aX,List.getElem?_cons_succ,List.getElem?_append_left hlt];exact hj
theorem Mem.iR{r:aF}(h:Mem w a (aX r)):w.cell? (a.add 33)=some (.int .i64 r.n):=h.cell 33 (lK r)
theorem Mem.yr{x:ct}(h:Mem w a (eM x)):w.cell? (a.add 0)=some (.int .i64 x.kind):=h.cell 0 rfl
theorem Mem.FQ{x:ct}(h:Mem w a (eM x)):w.cell? (a.add 1)=some (.bool x.left):=h.cell 1 rfl
theorem Mem.oo{x:ct}(h:Mem w a (eM x)):Mem w (a.add 2) (aX x.at_):=h.sub 2 fun j v hj=>by
 have hlt:j<(aX x.at_).length:=(List.getElem?_eq_some_iff.1 hj).1;rw [Nat.add_comm,eM,List.getElem?_cons_succ,List.getElem?_cons_succ,List.getElem?_append_left hlt];exact hj
theorem Mem.Ip{x:ct}(h:Mem w a (eM x)):w.cell? (a.add 36)=some (.int .u8 (x.byte.toNat:Int)):=h.cell 36 (uf x)
theorem Mem.Ir{d:aD}{i:Nat}{b:UInt8}(h:Mem w a (aN d))(hb:d.1[i]? =some b):w.cell? (a.add (i*1))=some (.int .u8 (b.toNat:Int)):=h (i*1) _ (by rw [Nat.mul_one];exact oe hb)
theorem Mem.wY{d:aD}{i:Nat}(h:Mem w a (aN d))(hi:i<32):w.cell? (a.add (i*1))=some (.int .u8 ((d.1[i]'(by rw [d.2];exact hi)).toNat:Int)):=h.Ir (List.getElem?_eq_getElem (by rw [d.2];exact hi))
end cells
structure bx where
 parents:List aD
 author:ByteArray
 note:ByteArray
 ops:List ct
def dt(pv:Value)(au no:ByteArray)(ov:Value):List Value:=[pv,.string au,.string no,ov]
section C1
variable {w:World} {a:Addr} {pv ov:Value} {au no:ByteArray} (h:Mem w a (dt pv au no ov))
include h
theorem Mem.kA:w.cell? (a.add 0)=some pv:=h.cell 0 rfl
theorem Mem.BF:w.cell? (a.add 1)=some (.string au):=h.cell 1 rfl
theorem Mem.BR:w.cell? (a.add 2)=some (.string no):=h.cell 2 rfl
theorem Mem.jo:w.cell? (a.add 3)=some ov:=h.cell 3 rfl
end C1
def Sl{α:Type}(w:World)(enc:α→List Value)(k:Nat)(v:Value)(xs:List α):Prop:=
 ∃A m c,v= .slice A m c∧xs.length=m∧m≤c∧c≤maxLen∧∀i x,xs[i]? =some x→∃a,A=some a∧Mem w (a.add (i*k)) (enc x)
theorem Sl.ext{α:Type}{w w':World}{enc:α→List Value}{k:Nat}{v:Value}{xs:List α}(h:Sl w enc k v xs)(hc:Ext w w'):Sl w' enc k v xs:=by
 obtain⟨A,m,c,hv,hl,hmc,hcm,hx⟩:=h;refine⟨A,m,c,hv,hl,hmc,hcm,fun i x hi=>?_⟩;obtain⟨a,ha,hm⟩:=hx i x hi;exact⟨a,ha,hm.ext hc⟩
theorem Sl.nil{α:Type}{w:World}{enc:α→List Value}{k:Nat}:Sl w enc k (.slice none 0 0) ([]:List α):=
 ⟨none,0,0,rfl,rfl,Nat.le_refl _,Nat.zero_le _,fun i x h=>by simp at h⟩
def Bh(w:World)(v:Value)(c:bx):Prop:=∃pv ov,v= .agg (dt pv c.author c.note ov).toArray∧Sl w aN 32 pv c.parents∧Sl w eM 37 ov c.ops∧c.author.size≤maxLen∧c.note.size≤maxLen
theorem Bh.ext{w w':World}{v:Value}{c:bx}(h:Bh w v c)(hc:Ext w w'):Bh w' v c:=by
 obtain⟨pv,ov,hv,hp,ho,ha,hn⟩:=h;exact⟨pv,ov,hv,hp.ext hc,ho.ext hc,ha,hn⟩
theorem cA{P:Program}{f:FuncId}{args:Array Value}{w w0:World}{v:Value}(h:Calls P f args w (cB fun v' w'=>v'=v∧Ext w w'))(hx:Ext w0 w):Calls P f args w (cB fun v' w'=>v'=v∧Ext w0 w'):=
 h.mono fun e w' hr=>by
  cases e with
  |returned u=>exact⟨hr.1,hx.ae hr.2⟩
  |panicked c=>exact hr
  |outgrown=>exact hr
end Go.Fw
namespace Go.Fw
open Go.RowKit Go.WideShapes Go.ChangeShapes Go.ChangeAt Go.Deep
section
variable {H:Type} {enc:TypeId×Value→H} {P:Program}
theorem zT{f:Func}{s:ChangeSpec}{apart fresh handsOn again:Bool}{W W':World}{args:Array Value}{v:Value}{ds gs:List (DataW H)}{before pa pv:List MemPlace}
  (hW:DataW.Whole enc P f.params.toList s.vars apart W args.toList ds gs before)
  (hres:∀(b:Nat) (sp:Nat→Bool) (hd:Bool),DataW.TrodAll enc P W' b sp hd f.resultTypes.toList (v.resultList f.resultTypes.size) (s.fn H (ds++gs)).results [])
  (hargs:∀sp:Nat→Bool,(∀p∈before,sp p.block=true)→DataW.TrodAll enc P W' 0 sp true f.params.toList args.toList (s.fn H (ds++gs)).args pa)
  (hvars:∀sp:Nat→Bool,(∀p∈before,sp p.block=true)→DataW.TrodVars enc P W' sp s.vars (s.fn H (ds++gs)).vars pv)
  (hps:before=pa++pv) (hb:Below W.heap.size W W')
  (hok:∀(j:Nat) (t:TypeId) (r:Value),f.resultTypes[j]? =some t→(v.resultList f.resultTypes.size)[j]? =some r→Value.okWide P W' .any 0 t r):
  s.post enc P f apart fresh handsOn again W args v W':=by
 have hlt:∀p∈before,p.block<W.heap.size:=fun p hp=>hW.lt p hp;have hold:∀p∈before,(fun b=>decide (b<W.heap.size)) p.block=true:=fun p hp=>by simpa using hlt p hp
 refine⟨ds,gs,before,[],pa,pv,hW,hres _ _ _,hargs _ hold,hvars _ hold,World.keptBut_mono (fun p hp=>⟨hp,?_⟩) (hb.frame (·∈before)),fun _=>?_⟩
 ·rw [hps,List.mem_append]at hp;exact Or.inr hp
 ·obtain⟨_,_,_,_,_,hz,hn⟩:=hW;refine⟨hok,_,_,([]++pa)++pv,⟨[]++pa,pv,trodAll_append (hargs _ (fun _ _=>rfl)) (hres _ _ _),hvars _ (fun _ _=>rfl),rfl,?_,?_⟩,?_⟩
  ·intro b off hp;have hin:MemPlace.cell b off∈before:=by rw [hps];simpa using hp
   rw [hb.frozen (hlt _ hin)];exact hz b off hin
  ·intro ha;have:=hn ha;rw [hps]at this;simpa using this
  ·intro p hp _;rw [hps];simpa using hp
theorem nI{W W':World}(hl:laidOutB P=true)(hb:Below W.heap.size W W'){sp:Nat→Bool}:∀{ts:List TypeId} {vs:List Value} {ds:List (DataW H)} {ps:List MemPlace},
  (∀t∈ts,P.readableRec t=true∧t<P.types.size)→DataW.TrodAll enc P W 0 (fun _=>true) true ts vs ds ps→(∀p∈ps,p.block<W.heap.size)→(∀p∈ps,sp p.block=true)→DataW.TrodAll enc P W' 0 sp true ts vs ds ps
 | [],vs,ds,ps,_,h,_,_=>by
  obtain⟨rfl,rfl,rfl⟩:=trodAll_nil h;rfl
 |t::ts,vs,ds,ps,hr,h,hlt,hsp=>by
  obtain⟨v,vs',d,ds',p,q,rfl,rfl,rfl,h1,h2⟩:=trodAll_cons h;refine⟨p,q,?_,?_,rfl⟩
  ·have hp:∀x∈p,x.block<W.heap.size:=fun x hx=>hlt x (List.mem_append_left _ hx);exact WideElems.Trod_stays hl (hr t aL).1 (hr t aL).2 h1 (fun x hx=>hb.same (hp x hx)) (fun x hx=>hsp x (List.mem_append_left _ hx))
  ·exact nI hl hb (fun u hu=>hr u (by simp [hu])) h2 (fun x hx=>hlt x (List.mem_append_right _ hx)) (fun x hx=>hsp x (List.mem_append_right _ hx))
end
end Go.Fw
namespace Go.Fw
open Go.RowKit Go.WideShapes Go.ChangeShapes Go.ChangeAt Go.Deep
def gi(P:Program)(t:TypeId)(R:World→List Value→Prop):Prop:=
 ∀(H:Type) (e:TypeId×Value→H) (w:World) (base:Nat) (spare:Nat→Bool) (held:Bool) (fuel:Nat) (cs:List Value) (d:DataW H) (ps:List MemPlace),
  DataW.trod e P w base spare held fuel t cs=some (d,ps)→(∀n∈d.weights P t,n≤reachBytes)→R w cs
section
variable {P:Program} {t e:TypeId} {R:World→List Value→Prop}
theorem gi.mono{R':World→List Value→Prop}(h:gi P t R)(hr:∀w cs,R w cs→R' w cs):gi P t R':=fun H en w b sp hd fu cs d ps ht hw=>hr _ _ (h H en w b sp hd fu cs d ps ht hw)
theorem qR{n:Int}(h:(Lit.int .u8 n).wf=true):∃b:UInt8,Value.int .u8 n=bc b:=by
 have h1:IntKind.u8.min=0:=rfl;have h2:IntKind.u8.max=255:=rfl;simp only [Lit.wf,Bool.and_eq_true,decide_eq_true_eq]at h;refine⟨UInt8.ofNat n.toNat,?_⟩;unfold bc;congr 1;rw [UInt8.toNat_ofNat',Nat.mod_eq_of_lt ai];omega
theorem gi.u8(ht:P.underlying t=some (.int .u8)):gi P t (fun _ cs=>∃b,cs=[bc b]):=fun H en w bs sp hd fu cs d ps h _=>by
 obtain⟨n,rfl,_,hn⟩:=DataW.trod_int ht h;obtain⟨b,hb⟩:=qR hn;exact⟨b,by rw [hb]⟩
theorem gi.int(ht:P.underlying t=some (.int .i64)):gi P t (fun _ cs=>∃i,cs=[.int .i64 i]∧eE i):=fun H en w bs sp hd fu cs d ps h _=>by
 obtain⟨n,rfl,_,hn⟩:=DataW.trod_int ht h;have h1:IntKind.i64.min= -9223372036854775808:=rfl;have h2:IntKind.i64.max=9223372036854775807:=rfl;simp only [Lit.wf,Bool.and_eq_true,decide_eq_true_eq]at hn;exact⟨n,rfl,by omega,by omega⟩
theorem gi.bool(ht:P.underlying t=some .bool):gi P t (fun _ cs=>∃b,cs=[.bool b]):=fun H en w bs sp hd fu cs d ps h _=>by
 obtain⟨b,rfl,_⟩:=DataW.trod_bool ht h;exact⟨b,rfl⟩
theorem gi.string(ht:P.underlying t=some .string):gi P t (fun _ cs=>∃s,cs=[.string s]∧s.size≤reachBytes):=fun H en w bs sp hd fu cs d ps h hw=>by
 obtain⟨s,rfl,hx,_⟩:=DataW.trod_string ht h;injection hx with h1 h2
 subst h1;have:=hw s.data.toList.length (by simp [DataW.weights]);exact⟨s,rfl,by simpa using this⟩
theorem gi.struct{fs:Array Field}(ht:P.underlying t=some (.struct fs))(R:Nat→World→List Value→Prop)(hf:∀(i:Nat) (f:Field),fs[i]? =some f→gi P f.type (R i)):
  gi P t (fun w cs=>cs.length=P.cellsOf t∧∀(i:Nat) (f:Field),fs[i]? =some f→R i w ((cs.drop f.offset).take (P.cellsOf f.type))):=fun H en w bs sp hd fu cs d ps h hw=>by
 obtain⟨xs,n,_,hx,hl,hxl,hi⟩:=DataW.trod_struct ht h;injection hx with h1 h2
 subst h1;refine⟨hl,fun i f hif=>?_⟩;have h3:=hi i f hif;have hlt:i<fs.size:=(Array.getElem?_eq_some_iff.1 hif).1;rw [List.getElem?_eq_getElem ai]at h3;refine hf i f hif H en w bs sp hd n _ _ _ h3 fun k hk=>hw k ?_;rw [DataW.weights,ht];refine DataW.weights_mem_each (j:=i) (t:=f.type) (d:=(xs[i]'ai).1) ?_ ?_ k hk
 ·simp [hif]
 ·simp [List.getElem?_eq_getElem (show i<xs.length by omega)]
theorem kb{H:Type}{e:TypeId}:∀{ds:List (DataW H)} {d:DataW H} {k:Nat},d∈ds→k∈d.weights P e→k∈DataW.weightsAll P e ds
 |x::ds,d,k,hd,hk=>by
  simp only [DataW.weightsAll,List.mem_append];rcases List.mem_cons.1 hd with rfl|hd
  ·exact .inl hk
  ·exact .inr (kb hd hk)
theorem gi.Ek{m:Nat}(ht:P.underlying t=some (.array m e))(hc:P.cellsOf e=1)(hct:P.cellsOf t=m)(he:gi P e R):
  gi P t (fun w cs=>cs.length=m∧∀(i:Nat) (v:Value),cs[i]? =some v→R w [v]):=fun H en w bs sp hd fu cs d ps h hw=>by
 obtain⟨xs,n,_,hx,hl,hxl,hi⟩:=DataW.trod_array ht h;injection hx with h1 h2
 subst h1;rw [hct]at hl;refine⟨hl,fun i v hv=>?_⟩;have hlt:i<cs.length:=(List.getElem?_eq_some_iff.1 hv).1;have h3:=hi i ai;rw [hc,Nat.mul_one,List.getElem?_eq_getElem ai]at h3;have e1:(cs.drop i).take 1=[v]:=by
  rw [List.drop_eq_getElem_cons hlt];have:cs[i]=v:=(List.getElem?_eq_some_iff.1 hv).2;simp [this]
 rw [e1]at h3;refine he H en w bs sp hd n _ _ _ h3 fun k hk=>hw k ?_;rw [DataW.weights,ht];exact kb (List.mem_map.2 ⟨xs[i]'ai,List.getElem_mem _,rfl⟩) hk
theorem vn{α:Type}{Q:Nat→α→Prop}:∀(m:Nat),(∀i,i<m→∃a,Q i a)→∃xs:List α,xs.length=m∧∀i x,xs[i]? =some x→Q i x
 |0,_=>⟨[],rfl,fun i x h=>by simp at h⟩
 |m+1,h=>by
  obtain⟨xs,hl,hx⟩:=vn m fun i hi=>h i ai;obtain⟨a,ha⟩:=h m ai;refine⟨xs++[a],by simp [hl],fun i x hi=>?_⟩;rcases Nat.lt_or_ge i m with hlt|hge
  ·rw [List.getElem?_append_left ai]at hi;exact hx i x hi
  ·rw [List.getElem?_append_right ai]at hi;have h0:i-xs.length=0:=by
    rcases Nat.eq_zero_or_pos (i-xs.length)with h0|h0
    ·exact h0
    ·rw [List.getElem?_eq_none (by simp;omega)]at hi;cases hi
   rw [h0]at hi;simp at hi;subst hi;have:i=m:=by omega
   subst this;exact ha
theorem gi.slice{α:Type}{enc:α→List Value}{Q:World→α→Prop}{k:Nat}(ht:P.underlying t=some (.slice e))(hc:P.cellsOf e=k)(hk:∀a,(enc a).length=k)(he:gi P e (fun w cs=>∃a,cs=enc a∧Q w a)):
  gi P t (fun w cs=>∃v xs,cs=[v]∧Sl w enc k v xs∧xs.length*P.bytesOf e≤reachBytes∧∀(i:Nat) x,xs[i]? =some x→Q w x):=fun H en w bs sp hd fu cs d ps h hw=>by
 rcases open_slice ht h with⟨rfl,_⟩|⟨a,len,cap,m,n,D,Pl,rfl,hb,hl,hm,hmm,hx,hi⟩
 ·exact⟨_,[],rfl,Sl.nil,by simp,fun i x hx=>by simp at hx⟩
 ·injection hx with h1 h2
  subst h1;have hle:len≤m:=by rw [hmm];split<;>omega
  obtain⟨xs,hxl,hxs⟩:=vn (Q:=fun i (x:α)=>Mem w (a.add (i*k)) (enc x)∧Q w x) len fun i hil=>by
   obtain⟨cs',hc1,hc2⟩:=hi i ai;rw [hc]at hc1;obtain⟨_,hcl,hcg⟩:=World.cells?_some hc1;obtain⟨x,rfl,hq⟩:=he H en w bs sp hd n _ _ _ hc2 fun u hu=>hw u (by
    rw [DataW.weights,ht];refine List.mem_cons_of_mem _ (List.mem_append_left _ (kb (List.mem_map.2 ⟨i,by simpa using hil,rfl⟩) hu)))
   refine⟨x,fun j v hj=>?_,hq⟩;have hjl:j<(enc x).length:=(List.getElem?_eq_some_iff.1 hj).1;rw [hcg j ai,hj]
  refine⟨_,xs,rfl,⟨some a,len,cap,rfl,hxl,hl,hm,fun i x hx=>⟨a,rfl,(hxs i x hx).1⟩⟩,?_,fun i x hx=>(hxs i x hx).2⟩;have:=hw ((((List.range len).map D).length+((List.range (m-len)).map fun j=>D (len+j)).length)*P.bytesOf e) (by rw [DataW.weights,ht];exact List.mem_cons_self);simp only [List.length_map,List.length_range]at this;have h2:xs.length*P.bytesOf e≤(len+(m-len))*P.bytesOf e:=Nat.mul_le_mul_right _ ai;omega
end
theorem uy{n:Nat}(h:n≤reachBytes):n≤maxLen:=Nat.le_trans h aw
section api
variable {P:Program} {t e tb ti td tr:TypeId}
theorem gi.Ir(ht:P.underlying t=some (.array 32 e))(he:P.underlying e=some (.int .u8))(hc:P.cellsOf e=1)(hct:P.cellsOf t=32):gi P t (fun _ cs=>∃d,cs=aN d):=
 (gi.Ek ht hc hct (gi.u8 he)).mono fun w cs ⟨hl,hg⟩=>by
  obtain⟨xs,hxl,hxs⟩:=vn (Q:=fun i (b:UInt8)=>cs[i]? =some (bc b)) 32 fun i hi=>by
   obtain⟨b,hb⟩:=hg i _ (List.getElem?_eq_getElem ai);exact⟨b,by rw [List.getElem?_eq_getElem ai];injection hb with hb;rw [hb]⟩
  refine⟨⟨xs,hxl⟩,?_⟩;apply List.ext_getElem?;intro i;rcases Nat.lt_or_ge i 32 with h|h
  ·rw [hxs i _ (List.getElem?_eq_getElem ai),aN,oe (l:=xs) (List.getElem?_eq_getElem ai)]
  ·rw [List.getElem?_eq_none ai,List.getElem?_eq_none (by rw [ag];omega)]
theorem ga{cs:List Value}{a b:Nat}:cs.take (a+b)=cs.take a++(cs.drop a).take b:=List.take_add
theorem gi.ref{f0 f1 f2:Field}(ht:P.underlying t=some (.struct #[f0,f1,f2]))(hct:P.cellsOf t=34)(h0:gi P f0.type (fun _ cs=>∃b,cs=[.bool b]))(h1:gi P f1.type (fun _ cs=>∃d,cs=aN d))(h2:gi P f2.type (fun _ cs=>∃i,cs=[.int .i64 i]∧eE i))
  (o0:f0.offset=0) (o1:f1.offset=1) (o2:f2.offset=33) (c0:P.cellsOf f0.type=1) (c1:P.cellsOf f1.type=32) (c2:P.cellsOf f2.type=1):gi P t (fun _ cs=>∃r,cs=aX r∧eE r.n):=
 (gi.struct ht (fun i w cs=>match i with|0=>∃b,cs=[.bool b]|1=>∃d,cs=aN d|_=>∃i,cs=[.int .i64 i]∧eE i) (fun i f hf=>by
  match i,hf with
  |0,hf=>simp at hf;subst hf;exact h0
  |1,hf=>simp at hf;subst hf;exact h1
  |2,hf=>simp at hf;subst hf;exact h2
  |i+3,hf=>simp at hf)).mono fun w cs ⟨hl,hg⟩=>by
   obtain⟨b,hb⟩:=hg 0 f0 rfl;obtain⟨d,hd⟩:=hg 1 f1 rfl;obtain⟨n,hn,hi⟩:=hg 2 f2 rfl;rw [o0,c0]at hb;rw [o1,c1]at hd;rw [o2,c2]at hn;refine⟨⟨b,d,n⟩,?_,hi⟩;have e1:cs=cs.take (1+32+1):=by rw [List.take_of_length_le ai]
   rw [e1,ga,ga,hd,hn];rw [List.drop_zero]at hb;rw [hb];rfl
theorem gi.op{f0 f1 f2 f3:Field}(ht:P.underlying t=some (.struct #[f0,f1,f2,f3]))(hct:P.cellsOf t=37)(h0:gi P f0.type (fun _ cs=>∃i,cs=[.int .i64 i]∧eE i))(h1:gi P f1.type (fun _ cs=>∃b,cs=[.bool b]))(h2:gi P f2.type (fun _ cs=>∃r,cs=aX r∧eE r.n))(h3:gi P f3.type (fun _ cs=>∃b,cs=[bc b]))
  (o0:f0.offset=0) (o1:f1.offset=1) (o2:f2.offset=2) (o3:f3.offset=36) (c0:P.cellsOf f0.type=1) (c1:P.cellsOf f1.type=1) (c2:P.cellsOf f2.type=34) (c3:P.cellsOf f3.type=1):gi P t (fun _ cs=>∃x,cs=eM x∧eE x.kind∧eE x.at_.n):=
 (gi.struct ht (fun i w cs=>match i with|0=>∃i,cs=[.int .i64 i]∧eE i|1=>∃b,cs=[.bool b]|2=>∃r,cs=aX r∧eE r.n|_=>∃b,cs=[bc b]) (fun i f hf=>by
  match i,hf with
  |0,hf=>simp at hf;subst hf;exact h0
  |1,hf=>simp at hf;subst hf;exact h1
  |2,hf=>simp at hf;subst hf;exact h2
  |3,hf=>simp at hf;subst hf;exact h3
  |i+4,hf=>simp at hf)).mono fun w cs ⟨hl,hg⟩=>by
   obtain⟨k,hk,hki⟩:=hg 0 f0 rfl;obtain⟨b,hb⟩:=hg 1 f1 rfl;obtain⟨r,hr,hi⟩:=hg 2 f2 rfl;obtain⟨x,hx⟩:=hg 3 f3 rfl;rw [o0,c0]at hk;rw [o1,c1]at hb;rw [o2,c2]at hr;rw [o3,c3]at hx;refine⟨⟨k,b,r,x⟩,?_,hki,hi⟩;have e1:cs=cs.take (1+1+34+1):=by rw [List.take_of_length_le ai]
   rw [e1,ga,ga,ga,hb,hr,hx];rw [List.drop_zero]at hk;rw [hk];simp [eM]
structure Hd(w:World)(v:Value)(c:bx):Prop where
 C1:Bh w v c
 parents:c.parents.length*32≤reachBytes
 author:c.author.size≤reachBytes
 note:c.note.size≤reachBytes
 ops:c.ops.length*72≤reachBytes
 ints:∀(i:Nat) x,c.ops[i]? =some x→eE x.kind∧eE x.at_.n
theorem gi.C1{f0 f1 f2 f3:Field}{ed eo:TypeId}(ht:P.underlying t=some (.struct #[f0,f1,f2,f3]))(hct:P.cellsOf t=4)
  (u0:P.underlying f0.type=some (.slice ed)) (cd:P.cellsOf ed=32) (bd:P.bytesOf ed=32) (hd:gi P ed (fun _ cs=>∃d,cs=aN d))
  (u1:P.underlying f1.type=some .string) (u2:P.underlying f2.type=some .string)
  (u3:P.underlying f3.type=some (.slice eo)) (co:P.cellsOf eo=37) (bo:P.bytesOf eo=72) (ho:gi P eo (fun _ cs=>∃x,cs=eM x∧eE x.kind∧eE x.at_.n))
  (o0:f0.offset=0) (o1:f1.offset=1) (o2:f2.offset=2) (o3:f3.offset=3) (c0:P.cellsOf f0.type=1) (c1:P.cellsOf f1.type=1) (c2:P.cellsOf f2.type=1) (c3:P.cellsOf f3.type=1):
  gi P t (fun w cs=>∃c,Hd w (.agg cs.toArray) c):=
 (gi.struct ht (fun i w cs=>match i with
   |0=>∃v xs,cs=[v]∧Sl w aN 32 v xs∧xs.length*P.bytesOf ed≤reachBytes∧∀(i:Nat) x,xs[i]? =some x→True
   |1=>∃s,cs=[.string s]∧s.size≤reachBytes
   |2=>∃s,cs=[.string s]∧s.size≤reachBytes
   |_=>∃v xs,cs=[v]∧Sl w eM 37 v xs∧xs.length*P.bytesOf eo≤reachBytes∧∀(i:Nat) x,xs[i]? =some x→eE x.kind∧eE x.at_.n) (fun i f hf=>by
  match i,hf with
  |0,hf=>simp at hf;subst hf;exact gi.slice (Q:=fun _ _=>True) u0 cd ag (hd.mono fun w cs ⟨d,h⟩=>⟨d,h,trivial⟩)
  |1,hf=>simp at hf;subst hf;exact gi.string u1
  |2,hf=>simp at hf;subst hf;exact gi.string u2
  |3,hf=>simp at hf;subst hf;exact gi.slice (Q:=fun _ x=>eE x.kind∧eE x.at_.n) u3 co aC ho
  |i+4,hf=>simp at hf)).mono fun w cs ⟨hl,hg⟩=>by
   obtain⟨pv,xs,h0,hs,hb,_⟩:=hg 0 f0 rfl;obtain⟨au,h1,ha⟩:=hg 1 f1 rfl;obtain⟨no,h2,hn⟩:=hg 2 f2 rfl;obtain⟨ov,ys,h3,hso,hbo,hq⟩:=hg 3 f3 rfl;rw [o0,c0]at h0;rw [o1,c1]at h1;rw [o2,c2]at h2;rw [o3,c3]at h3;rw [bd]at hb;rw [bo]at hbo;have e1:cs=cs.take (1+1+1+1):=by rw [List.take_of_length_le ai]
   rw [List.drop_zero]at h0;have e2:cs=dt pv au no ov:=by rw [e1,ga,ga,ga,h0,h1,h2,h3];rfl
   refine⟨⟨xs,au,no,ys⟩,⟨pv,ov,by rw [e2],hs,hso,uy ha,uy hn⟩,hb,ha,hn,hbo,hq⟩
end api
theorem gi.arg{H:Type}{en:TypeId×Value→H}{P:Program}{t:TypeId}{R:World→List Value→Prop}{w:World}{v:Value}{d:DataW H}{ps:List MemPlace}(h:gi P t R)(ht:DataW.Trod en P w 0 (fun _=>true) true t v d ps)(hw:∀n∈d.weights P t,n≤reachBytes):R w v.cells.toList:=by
 obtain⟨fuel,hf⟩:=ht;exact h H en w _ _ _ fuel _ _ _ hf hw
theorem sE{H:Type}{P:Program}{ts:List TypeId}{ds:List (DataW H)}(h:(DataW.weightsEach P ts ds).all (·≤reachBytes)=true){j:Nat}{t:TypeId}{d:DataW H}(ht:ts[j]? =some t)(hd:ds[j]? =some d):∀n∈d.weights P t,n≤reachBytes:=fun n hn=>by
 have:=List.all_eq_true.1 h n (DataW.weights_mem_each ht hd n hn);simpa using this
end Go.Fw
