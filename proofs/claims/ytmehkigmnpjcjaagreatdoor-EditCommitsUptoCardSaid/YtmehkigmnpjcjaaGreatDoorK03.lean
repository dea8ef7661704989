/- Parts of a proof: what its last text leans on. No condition. -/
import Derived.OrdersHeld
import Derived.Test.YtmehkigmnpjcjaaGreatDoorProg
import Derived.Great.BuildSlice
import Derived.Test.YtmehkigmnpjcjaaGreatDoorK02
set_option linter.unusedSimpArgs false
set_option linter.unusedVariables false
namespace Go.Fw
open Go.RowKit
def Own(w:World)(e:TypeId)(k:Nat)(v:Value)(xs:List Value):Prop:=
 (v= .slice none 0 0∧xs=[])∨∃g n cap rest fz,v= .slice (some ⟨g,0,none⟩) n cap∧w.heap[g]? =some (.cells (xs++rest).toArray e fz)∧
  xs.length=n*k∧n≤cap∧cap≤maxLen∧(xs++rest).length=cap*k∧∀o,o<cap*k→¬(fz.1≤o∧o<fz.2)
section
variable {w w':World} {e:TypeId} {k:Nat} {v:Value} {xs:List Value} {S:Nat→Prop}
theorem Own.nil:Own w e k (.slice none 0 0) []:= .inl ⟨rfl,rfl⟩
theorem Own.lt(h:Own w e k v xs):∀g,v.ownBlock=some g→g<w.heap.size:=by
 intro g hg;rcases h with⟨rfl,_⟩|⟨g',n,cap,rest,fz,rfl,hh,_⟩
 ·simp [Value.ownBlock]at hg
 ·simp [Value.ownBlock]at hg;subst hg;exact(Array.getElem?_eq_some_iff.1 hh).1
theorem Own.aA(h:Own w e k v xs)(hc:aE S w w')(hs:∀g,v.ownBlock=some g→¬S g):Own w' e k v xs:=by
 rcases h with h|⟨g,n,cap,rest,fz,rfl,hh,r⟩
 ·exact .inl h
 ·exact .inr ⟨g,n,cap,rest,fz,rfl,(hc.block g (Array.getElem?_eq_some_iff.1 hh).1 (hs g rfl)).trans hh,r⟩
theorem Own.ext(h:Own w e k v xs)(hc:Ext w w'):Own w' e k v xs:=h.aA hc (fun _ _ f=>f)
theorem Own.mem(h:Own w e k v xs):∀A n c,v= .slice A n c→(0<n→∃a,A=some a∧Mem w a xs)∧(A=none→n=0)∧xs.length=n*k∧n≤c∧c≤maxLen:=by
 rintro A n c rfl;rcases h with⟨h,rfl⟩|⟨g,n',cap,rest,fz,h,hh,hl,hnc,hcm,_⟩
 ·injection h with h1 h2 h3
  subst h1;subst h2;subst h3;exact⟨fun h=>absurd h ai,fun _=>rfl,by simp,Nat.le_refl _,Nat.zero_le _⟩
 ·injection h with h1 h2 h3
  subst h1;subst h2;subst h3;refine⟨fun _=>⟨_,rfl,fun j u hu=>?_⟩,(fun h=>by cases h),hl,hnc,hcm⟩;have e:(⟨g,0,none⟩:Addr).add j=⟨g,j,none⟩:=by unfold Addr.add;split<;>simp_all
  rw [e,cell_of_row w g j _ _ _ hh];have hlt:j<xs.length:=(List.getElem?_eq_some_iff.1 hu).1;simpa [List.getElem?_append,hlt]using hu
theorem Own.lens(h:Own w e k v xs):∃A n c,v= .slice A n c:=by
 rcases h with⟨rfl,_⟩|⟨g,n,cap,rest,fz,rfl,_⟩
 ·exact⟨_,_,_,rfl⟩
 ·exact⟨_,_,_,rfl⟩
end
theorem fY{P:Program}(g o:Nat)(t:TypeId)(fz:Nat×Nat):∀(vs:List Value) (i:Nat) (cur:Array Value) (w:World),w.heap[g]? =some (.cells cur t fz)→o+i+vs.length≤cur.size→(∀v∈vs,v.oneCell'=true)→
  (∀p,p<cur.size→¬(fz.1≤p∧p<fz.2))→
  (storeCells ⟨g,o,none⟩ vs i).run P w= .ok () (w.setRow g (cur.toList.take (o+i)++vs++cur.toList.drop (o+i+vs.length)).toArray)
 | [],i,cur,w,hg,_,_,_=>by
  simp only [storeCells,List.append_nil,List.length_nil,Nat.add_zero,List.take_append_drop,Array.toArray_toList];rw [setRow_self w g cur t fz hg];rfl
 |v::rest,i,cur,w,hg,hl,h1,hf=>by
  have hi:o+i<cur.size:=by simp at hl;omega
  have hadd:(⟨g,o,none⟩:Addr).add i=⟨g,o+i,none⟩:=by unfold Addr.add;split<;>simp_all
  have hcell:w.cell? ⟨g,o+i,none⟩=some cur[o+i]:=by simp [World.cell?,hg,hi]
  have hfro:w.frozen? ⟨g,o+i,none⟩=false:=by
   have:=hf (o+i) hi;simp only [World.frozen?,hg];simpa using this
  have hst:(store ((⟨g,o,none⟩:Addr).add i) v).run P w= .ok () (w.setRow g (cur.setIfInBounds (o+i) v)):=by
   rw [hadd,run_store P w _ v _ (h1 v aL),hcell];simp [hfro,setCell_eq_setRow w g (o+i) cur t fz v hg]
  have ih:=fY (P:=P) g o t fz rest (i+1) (cur.setIfInBounds (o+i) v) (w.setRow g (cur.setIfInBounds (o+i) v)) (setRow_heap w g cur _ t fz hg) (by simp at hl⊢;omega) (fun x hx=>h1 x (by simp [hx]))
   (fun p hp=>hf p (by simpa using hp))
  simp only [storeCells,Sem.run_bind,hst,Result.andThen_ok,ih,setRow_setRow];congr 3;have e:=list_seg_step cur.toList (o+i) v rest (by simp at hl⊢;omega);simpa [Array.toList_setIfInBounds,Nat.add_assoc]using e
def Src(P:Program)(w:World)(k:Nat)(x:Value)(m:Nat)(news:List Value):Prop:=
 news.length=m*k∧∀w':World,w'.heap=w.heap→(Builtin.lenOf x).run P w'= .ok m w'∧(Builtin.firstCells k m x).run P w'= .ok news.toArray w'
theorem Src.slice{P:Program}{w:World}{k:Nat}{A:Option Addr}{m c:Nat}{news:List Value}(hl:news.length=m*k)(hA:0<m→∃a,A=some a∧Mem w a news):Src P w k (.slice A m c) m news:=by
 refine⟨hl,fun w' hw=>⟨by simp [Builtin.lenOf],?_⟩⟩;cases A with
 |none=>
  have:m=0:=by
   rcases Nat.eq_zero_or_pos m with h|h
   ·exact h
   ·obtain⟨a,h,_⟩:=hA h;cases h
  subst this;have:news=[]:=List.eq_nil_of_length_eq_zero (by simpa using hl);subst this;simp [Builtin.firstCells]
 |some a=>
  have hm:Mem w a news:=by
   rcases Nat.eq_zero_or_pos m with h0|h0
   ·subst h0;have:news=[]:=List.eq_nil_of_length_eq_zero (by simpa using hl);subst this;exact Mem.nil
   ·obtain⟨a',h,hm⟩:=hA h0;injection h with h
    subst h;exact hm
  have hm':Mem w' a news:=fun j v hv=>by
   have:=hm j v hv;simpa [World.cell?,hw]using this
  exact run_firstCells_some (P:=P) w' k m a m c news hl hm'
theorem Src.string{P:Program}{w:World}{s:ByteArray}:Src P w 1 (.string s) s.size (az s.toList):=by
 refine⟨by rw [aS,bR,Nat.mul_one],fun w' hw=>⟨by simp [Builtin.lenOf],?_⟩⟩;have hx:s.extract 0 s.size=s:=by
  apply ByteArray.ext;rw [ByteArray.data_extract];show s.data.extract 0 s.data.size=s.data;simp
 simp only [Builtin.firstCells,hx,Sem.run_pure];congr 1;rw [ByteArray.toList_eq];simp [az,bc,Array.ext_iff]
theorem nT{P:Program}{w:World}{t u ty e e':TypeId}{i:TypeInfo}{z:Value}{k m:Nat}{v x:Value}{xs news:List Value}
  (ht:P.underlying t=some (.slice e)) (hud:P.underlying u=some (.slice e')) (hi:P.info? e=some i) (hz:i.zero=some z) (hsize:i.size=k) (hzs:z.cells.size=k) (hk:0<k) (hbp:0<i.bytes)
  (hown:Own w e k v xs) (hsrc:Src P w k x m news) (h1:∀u∈news,u.oneCell'=true) (hroom:(xs.length+m*k)*i.bytes≤140737488355328*k):
  ∃v' w',(Builtin.append_ #[t,u] ty #[v,x]).run P w= .ok v' w'∧Own w' e k v' (xs++news)∧aE (fun g=>v.ownBlock=some g) w w'∧
   (v'.ownBlock=v.ownBlock∨∀g,v'.ownBlock=some g→w.heap.size≤g):=by
 subst hsize;obtain⟨hnl,hs⟩:=hsrc;obtain⟨A,n,c,rfl⟩:=hown.lens;obtain⟨hmem,hnone,hxl,hnc,hcm⟩:=hown.mem A n c rfl;obtain⟨_,hsv⟩:=Src.slice (P:=P) (w:=w) (k:=i.size) (A:=A) (m:=n) (c:=c) hxl hmem;have hfit:(n+m)*i.bytes≤140737488355328:=by
  have h2:(xs.length+m*i.size)*i.bytes=((n+m)*i.bytes)*i.size:=by rw [hxl,←Nat.add_mul,Nat.mul_assoc,Nat.mul_comm i.size,←Nat.mul_assoc]
  rw [h2]at hroom;exact Nat.le_of_mul_le_mul_right hroom hk
 have hmx:n+m≤140737488355328:=Nat.le_trans (Nat.le_mul_of_pos_right _ hbp) hfit;by_cases hr:n+m≤c
 ·cases A with
  |none=>
   have h0:=hnone rfl;subst h0;rcases hown with⟨h,rfl⟩|⟨g,n',cap,rest,fz,h,_⟩
   ·injection h with _ _ hc
    subst hc;have hm0:m=0:=by omega
    subst hm0;have:news=[]:=List.eq_nil_of_length_eq_zero (by simpa using hnl);subst this;obtain⟨hl1,hf1⟩:=hs w rfl;exact⟨.slice none 0 0,w,by simp [Builtin.append_,run_underlying ht,run_underlying hud,sizeOf,typeInfo,hi,hl1,hf1],by simpa using Own.nil,aE.refl,.inl rfl⟩
   ·cases h
  |some a=>
   rcases hown with⟨h,_⟩|⟨g,n',cap,rest,fz,h,hh,hxl',hnc',hcm',hal,hfz⟩
   ·cases h
   ·injection h with h2 h3 h4
    injection h2 with h2
    subst h2;subst h3;subst h4;obtain⟨hl1,hf1⟩:=hs w rfl;have hrest:rest.length=(c-n)*i.size:=by
     rw [List.length_append,hxl,]at hal;rw [Nat.sub_mul];omega
    have hle:news.length≤rest.length:=by rw [hnl,hrest];exact Nat.mul_le_mul_right _ ai
    have hst:=fY (P:=P) g (n*i.size) e fz news 0 (xs++rest).toArray w hh (by simp;omega) h1 (fun p hp=>hfz p (by simp at hp;simp at hal;omega));have hadd:(⟨g,0,none⟩:Addr).add (n*i.size)=⟨g,n*i.size,none⟩:=by unfold Addr.add;split<;>simp_all
    have heq:((xs++rest).toArray.toList.take (n*i.size+0)++news++(xs++rest).toArray.toList.drop (n*i.size+0+news.length)).toArray=(xs++news++rest.drop news.length).toArray:=by
     congr 1;rw [List.toList_toArray,Nat.add_zero,←hxl,List.take_left,List.drop_append];simp [List.drop_of_length_le]
    rw [heq]at hst;refine⟨.slice (some ⟨g,0,none⟩) (n+m) c,_,?_,.inr ⟨g,n+m,c,rest.drop news.length,fz,rfl,setRow_heap w g _ _ e fz hh,?_,hr,hcm',?_,hfz⟩,
     ⟨rfl,rfl,rfl,by simp,fun b hb hn=>setRow_other w g b _ (fun e=>hn (by rw [e];rfl)),Nat.le_refl _⟩,.inl rfl⟩
    ·simp [Builtin.append_,run_underlying ht,run_underlying hud,sizeOf,typeInfo,hi,hl1,hf1,hr,hadd,hst]
    ·rw [List.length_append,hxl,hnl,Nat.add_mul]
    ·rw [←hal];simp;omega
 ·have hn:¬(n+m≤c):=hr;have h63':¬(9223372036854775807<((n:Int)+(m:Int))):=by omega
  have h48':¬(281474976710656<Builtin.nextslicecap (n+m) c*i.bytes):=by
   have:=growslice_fits (need:=n+m) (old:=c) (bytes:=i.bytes) ai hfit;omega
  obtain⟨hl1,_⟩:=hs w rfl;obtain⟨_,hf1⟩:=hs w.drew rfl;obtain⟨_,hf0⟩:=hsv w.drew rfl;have hge:=grownCap_ge w (n+m) c e;have hcm2:grownCap w (n+m) c e≤maxLen:=grownCap_le_maxLen w (n+m) c e (by simp only [maxLen];omega);refine⟨.slice (some ⟨w.heap.size,0,none⟩) (n+m) (grownCap w (n+m) c e),
   w.drew.alloc (.cells (xs++news++(Builtin.zeroCells z.cells (grownCap w (n+m) c e-(n+m))).toList).toArray e),?_,
   .inr ⟨w.heap.size,n+m,grownCap w (n+m) c e,(Builtin.zeroCells z.cells (grownCap w (n+m) c e-(n+m))).toList,(0,0),rfl,heap_alloc_new w.drew _,?_,hge,hcm2,?_,fun o _=>by simp⟩,
   aE.drew.trans (aE.alloc (S:=fun _=>False) _) (fun _ _ f=>f.elim),.inr (fun g hg=>by simp [Value.ownBlock]at hg;omega)⟩
  ·simp [Builtin.append_,run_underlying ht,run_underlying hud,sizeOf,typeInfo,zeroValue,hi,hz,hl1,hn,h63',h48',Question.forced,hf0,hf1,newRow,grownCap];congr 2;apply Array.ext';simp
  ·rw [List.length_append,hxl,hnl,Nat.add_mul]
  ·simp only [List.length_append,hxl,hnl,Array.length_toList,size_zeroCells,hzs,←Nat.add_mul];congr 1;omega
theorem nw{P:Program}{w:World}{t u ty e:TypeId}{i:TypeInfo}{z:Value}{k m:Nat}{v x:Value}{xs news:List Value}
  (ht:P.underlying t=some (.slice e)) (hud:P.underlying u=some .string) (hi:P.info? e=some i) (hz:i.zero=some z) (hsize:i.size=k) (hzs:z.cells.size=k) (hk:0<k) (hbp:0<i.bytes)
  (hown:Own w e k v xs) (hsrc:Src P w k x m news) (h1:∀u∈news,u.oneCell'=true) (hroom:(xs.length+m*k)*i.bytes≤140737488355328*k):
  ∃v' w',(Builtin.append_ #[t,u] ty #[v,x]).run P w= .ok v' w'∧Own w' e k v' (xs++news)∧aE (fun g=>v.ownBlock=some g) w w'∧
   (v'.ownBlock=v.ownBlock∨∀g,v'.ownBlock=some g→w.heap.size≤g):=by
 subst hsize;obtain⟨hnl,hs⟩:=hsrc;obtain⟨A,n,c,rfl⟩:=hown.lens;obtain⟨hmem,hnone,hxl,hnc,hcm⟩:=hown.mem A n c rfl;obtain⟨_,hsv⟩:=Src.slice (P:=P) (w:=w) (k:=i.size) (A:=A) (m:=n) (c:=c) hxl hmem;have hfit:(n+m)*i.bytes≤140737488355328:=by
  have h2:(xs.length+m*i.size)*i.bytes=((n+m)*i.bytes)*i.size:=by rw [hxl,←Nat.add_mul,Nat.mul_assoc,Nat.mul_comm i.size,←Nat.mul_assoc]
  rw [h2]at hroom;exact Nat.le_of_mul_le_mul_right hroom hk
 have hmx:n+m≤140737488355328:=Nat.le_trans (Nat.le_mul_of_pos_right _ hbp) hfit;by_cases hr:n+m≤c
 ·cases A with
  |none=>
   have h0:=hnone rfl;subst h0;rcases hown with⟨h,rfl⟩|⟨g,n',cap,rest,fz,h,_⟩
   ·injection h with _ _ hc
    subst hc;have hm0:m=0:=by omega
    subst hm0;have:news=[]:=List.eq_nil_of_length_eq_zero (by simpa using hnl);subst this;obtain⟨hl1,hf1⟩:=hs w rfl;exact⟨.slice none 0 0,w,by simp [Builtin.append_,run_underlying ht,run_underlying hud,sizeOf,typeInfo,hi,hl1,hf1],by simpa using Own.nil,aE.refl,.inl rfl⟩
   ·cases h
  |some a=>
   rcases hown with⟨h,_⟩|⟨g,n',cap,rest,fz,h,hh,hxl',hnc',hcm',hal,hfz⟩
   ·cases h
   ·injection h with h2 h3 h4
    injection h2 with h2
    subst h2;subst h3;subst h4;obtain⟨hl1,hf1⟩:=hs w rfl;have hrest:rest.length=(c-n)*i.size:=by
     rw [List.length_append,hxl,]at hal;rw [Nat.sub_mul];omega
    have hle:news.length≤rest.length:=by rw [hnl,hrest];exact Nat.mul_le_mul_right _ ai
    have hst:=fY (P:=P) g (n*i.size) e fz news 0 (xs++rest).toArray w hh (by simp;omega) h1 (fun p hp=>hfz p (by simp at hp;simp at hal;omega));have hadd:(⟨g,0,none⟩:Addr).add (n*i.size)=⟨g,n*i.size,none⟩:=by unfold Addr.add;split<;>simp_all
    have heq:((xs++rest).toArray.toList.take (n*i.size+0)++news++(xs++rest).toArray.toList.drop (n*i.size+0+news.length)).toArray=(xs++news++rest.drop news.length).toArray:=by
     congr 1;rw [List.toList_toArray,Nat.add_zero,←hxl,List.take_left,List.drop_append];simp [List.drop_of_length_le]
    rw [heq]at hst;refine⟨.slice (some ⟨g,0,none⟩) (n+m) c,_,?_,.inr ⟨g,n+m,c,rest.drop news.length,fz,rfl,setRow_heap w g _ _ e fz hh,?_,hr,hcm',?_,hfz⟩,
     ⟨rfl,rfl,rfl,by simp,fun b hb hn=>setRow_other w g b _ (fun e=>hn (by rw [e];rfl)),Nat.le_refl _⟩,.inl rfl⟩
    ·simp [Builtin.append_,run_underlying ht,run_underlying hud,sizeOf,typeInfo,hi,hl1,hf1,hr,hadd,hst]
    ·rw [List.length_append,hxl,hnl,Nat.add_mul]
    ·rw [←hal];simp;omega
 ·have hn:¬(n+m≤c):=hr;have h63':¬(9223372036854775807<((n:Int)+(m:Int))):=by omega
  have h48':¬(281474976710656<Builtin.nextslicecap (n+m) c*i.bytes):=by
   have:=growslice_fits (need:=n+m) (old:=c) (bytes:=i.bytes) ai hfit;omega
  obtain⟨hl1,_⟩:=hs w rfl;obtain⟨_,hf1⟩:=hs w.drew rfl;obtain⟨_,hf0⟩:=hsv w.drew rfl;have hge:=grownCap_ge w (n+m) c e;have hcm2:grownCap w (n+m) c e≤maxLen:=grownCap_le_maxLen w (n+m) c e (by simp only [maxLen];omega);refine⟨.slice (some ⟨w.heap.size,0,none⟩) (n+m) (grownCap w (n+m) c e),
   w.drew.alloc (.cells (xs++news++(Builtin.zeroCells z.cells (grownCap w (n+m) c e-(n+m))).toList).toArray e),?_,
   .inr ⟨w.heap.size,n+m,grownCap w (n+m) c e,(Builtin.zeroCells z.cells (grownCap w (n+m) c e-(n+m))).toList,(0,0),rfl,heap_alloc_new w.drew _,?_,hge,hcm2,?_,fun o _=>by simp⟩,
   aE.drew.trans (aE.alloc (S:=fun _=>False) _) (fun _ _ f=>f.elim),.inr (fun g hg=>by simp [Value.ownBlock]at hg;omega)⟩
  ·simp [Builtin.append_,run_underlying ht,run_underlying hud,sizeOf,typeInfo,zeroValue,hi,hz,hl1,hn,h63',h48',Question.forced,hf0,hf1,newRow,grownCap];congr 2;apply Array.ext';simp
  ·rw [List.length_append,hxl,hnl,Nat.add_mul]
  ·simp only [List.length_append,hxl,hnl,Array.length_toList,size_zeroCells,hzs,←Nat.add_mul];congr 1;omega
def St(P:Program)(n:NN)(fr:Fr)(o:Op)(ty:TypeId)(w:World)(R:Value→World→Prop):Prop:=
 ∀a (o':Oper),o'.op=o→o'.type=ty→ju n a fr→∃v w',(execOp a.eval o').run P w= .ok (.value v) w'∧R v w'
section
variable {P:Program} {n:NN} {Φ:Exit→Fr→World→Prop} {fr:Fr} {w:World} {ty:TypeId} {R:Value→World→Prop}
theorem WL.st{ops:Array Oper}{rest:List Oper}{d:Nat}{o:Op}{pos:String}{aft:Array Edge}
  (hs:St P n fr o ty w R) (hd:d<n.1) (h:∀v w',R v w'→WL P ops n Φ rest ((d,v)::fr) w'):WL P ops n Φ (⟨some d,o,ty,pos,aft,none⟩::rest) fr w:=fun a ha=>
 wpList_plain rfl fun K hK=>by
  obtain⟨v,w',hr,hR⟩:=hs a ⟨some d,o,ty,pos,aft,none⟩ rfl rfl ha;unfold Oper.wp;rw [hr];exact hK _ _ (h v w' hR _ (ha.put hd v))
def eP(P:Program)(e:TypeId)(k b:Nat):Prop:=∃i z,P.info? e=some i∧i.zero=some z∧i.size=k∧z.cells.size=k∧i.bytes=b∧0<k∧0<b
theorem St.append{s x:Operand}{v xv:Value}{t u e e':TypeId}{k b m:Nat}{xs news:List Value}
  (ht:P.underlying t=some (.slice e)) (hud:P.underlying u=some (.slice e')) (hi:eP P e k b) (hs:ev fr s=some v) (hx:ev fr x=some xv)
  (hown:Own w e k v xs) (hsrc:Src P w k xv m news) (h1:∀u∈news,u.oneCell'=true) (hroom:(xs.length+m*k)*b≤140737488355328*k):
  St P n fr (.call {callee:= .builtin .append,args:=#[s,x],argTypes:=#[t,u]}) ty w (fun v' w'=>Own w' e k v' (xs++news)∧aE (fun g=>v.ownBlock=some g) w w'∧
   (v'.ownBlock=v.ownBlock∨∀g,v'.ownBlock=some g→w.heap.size≤g)):=fun a o' ho hty ha=>by
 obtain⟨i,z,hi,hz,hk,hzs,rfl,h0,hb⟩:=hi;obtain⟨v',w',hr,hR⟩:=nT (P:=P) (w:=w) (ty:=o'.type) ht hud hi hz hk hzs h0 hb hown hsrc h1 hroom;exact⟨v',w',by simp [execOp,ho,resolve,invoke,builtin,ha.ev hs,ha.ev hx,hr],hR⟩
theorem St.GW{s x:Operand}{v:Value}{str:ByteArray}{t u e:TypeId}{b:Nat}{xs:List Value}
  (ht:P.underlying t=some (.slice e)) (hud:P.underlying u=some .string) (hi:eP P e 1 b) (hs:ev fr s=some v) (hx:ev fr x=some (.string str))
  (hown:Own w e 1 v xs) (hroom:(xs.length+str.size)*b≤140737488355328):
  St P n fr (.call {callee:= .builtin .append,args:=#[s,x],argTypes:=#[t,u]}) ty w (fun v' w'=>Own w' e 1 v' (xs++az str.toList)∧aE (fun g=>v.ownBlock=some g) w w'∧
   (v'.ownBlock=v.ownBlock∨∀g,v'.ownBlock=some g→w.heap.size≤g)):=fun a o' ho hty ha=>by
 obtain⟨i,z,hi,hz,hk,hzs,rfl,h0,hb⟩:=hi;obtain⟨v',w',hr,hR⟩:=nw (P:=P) (w:=w) (ty:=o'.type) ht hud hi hz hk hzs h0 hb hown Src.string iW (by simpa using hroom);exact⟨v',w',by simp [execOp,ho,resolve,invoke,builtin,ha.ev hs,ha.ev hx,hr],hR⟩
def FE(fr:Fr):List (Nat×Operand)→Option (List (Nat×Value))
 | []=>some []
 |(i,x)::r=>match ev fr x,FE fr r with
  |some v,some vs=>some ((i,v)::vs)
  |_,_=>none
theorem ju.FE{a:Act}(h:ju n a fr):∀{xs:List (Nat×Operand)} {vs:List (Nat×Value)},Fw.FE fr xs=some vs→xs.map (fun p=>(p.1,a.eval p.2))=vs
 | [],vs,e=>by simpa [Fw.FE]using e
 |(i,x)::r,vs,e=>by
  simp only [Fw.FE]at e;split at e
  ·rename_i v us h1 h2;simp only [Option.some.injEq]at e;subst e;simp only [List.map_cons,h.ev h1,h.FE h2]
  ·cases e
theorem St.buildSlice{t e:TypeId}{len:Nat}{ps:List (Nat×Operand)}{vs:List (Nat×Value)}{cs:List Value}(hp:FE fr ps=some vs)
  (hr:∀w,(Instr.buildSlice t len vs.toArray).run P w= .ok (.slice (some ⟨w.heap.size,0,none⟩) len len) (w.alloc (.cells cs.toArray e))):
  St P n fr (.buildSlice t len ps.toArray) ty w (fun v w'=>∃g,v= .slice (some ⟨g,0,none⟩) len len∧w.heap.size≤g∧aK w' g e cs∧Ext w w'):=fun a o' ho hty ha=>by
 have:=ha.FE hp;refine⟨_,_,?_,w.heap.size,rfl,Nat.le_refl _,aK.new w e cs,aE.alloc _⟩;have h2:=hr w;rw [←this]at h2;simp only [execOp,ho];simp only [List.map_toArray,Sem.run_bind];rw [h2];rfl
theorem Y.build{t:TypeId}{ps:List (Nat×Operand)}{vs:List (Nat×Value)}{v:Value}(hp:FE fr ps=some vs)(hr:(Instr.build t vs.toArray).run P w= .ok v w):Yw P n fr (.build t ps.toArray) ty w v w:=fun a o' ho hty ha=>by
 have:=ha.FE hp;rw [←this]at hr;simp only [execOp,ho];simp only [List.map_toArray,Sem.run_bind];rw [hr];rfl
end
def RH(P:Program)(ops:Array Oper)(S:World→Prop)(n:NN)(Φ:Exit→Fr→World→Prop)(fuel:Nat)(listed:Array Bool)(fr:Fr)(w:World):Prop:=
 ∀a,ju n a fr→wpAnyH P .any ops (lift n Φ) S fuel listed a w
def RS(P:Program)(ops:Array Oper)(S:World→Prop)(n:NN)(Φ:Exit→Fr→World→Prop)(fuel:Nat)(listed:Array Bool)(i:Nat)(fr:Fr)(w:World):Prop:=
 ∀a,ju n a fr→wpOp P ops (lift n Φ) i (fun a' w'=>S w'∧wpAnyH P .any ops (lift n Φ) S fuel (listed.setIfInBounds i true) a' w') a w
section rh
variable {P:Program} {ops:Array Oper} {S:World→Prop} {n:NN} {Φ:Exit→Fr→World→Prop} {fr:Fr} {w:World} {fuel:Nat} {listed:Array Bool}
theorem RH.done(hr:Region.ready .any ops listed=[])(h:Φ .normal fr w):RH P ops S n Φ fuel listed fr w:=fun a ha=>wpAnyH_done hr ⟨fr,ha,h⟩ fuel
theorem RH.one(i:Nat)(hr:Region.ready .any ops listed=[i])(h:RS P ops S n Φ fuel listed i fr w):RH P ops S n Φ (fuel+1) listed fr w:=fun a ha=>
 wpAnyH_all hr aL fun j hj=>by
  simp at hj;subst hj;exact h a ha
theorem RH.two(i j:Nat)(hr:Region.ready .any ops listed=[i,j])(h1:RS P ops S n Φ fuel listed i fr w)(h2:RS P ops S n Φ fuel listed j fr w):RH P ops S n Φ (fuel+1) listed fr w:=fun a ha=>
 wpAnyH_all hr aL fun k hk=>by
  simp at hk;rcases hk with rfl|rfl
  ·exact h1 a ha
  ·exact h2 a ha
theorem RH.cases{d:Nat}{c:Bool}(hg:fr.get d=some (.bool c))
  (ht:c=true→RH P ops S n Φ fuel listed ((d,.bool true)::fr) w) (hf:c=false→RH P ops S n Φ fuel listed ((d,.bool false)::fr) w):RH P ops S n Φ fuel listed fr w:=by
 intro a ha;cases c with
 |true=>exact ht rfl a (ha.weaken (Fr.le.cons hg Fr.le.refl))
 |false=>exact hf rfl a (ha.weaken (Fr.le.cons hg Fr.le.refl))
theorem RH.sU{d:Nat}{p:Prop}{inst:Decidable p}(hg:fr.get d=some (.bool (@decide p inst)))
  (ht:p→RH P ops S n Φ fuel listed ((d,.bool true)::fr) w) (hf:¬p→RH P ops S n Φ fuel listed ((d,.bool false)::fr) w):RH P ops S n Φ fuel listed fr w:=
 RH.cases hg (fun h=>ht (@of_decide_eq_true p inst h)) (fun h=>hf (@of_decide_eq_false p inst h))
theorem RH.take(i:Nat){d:Nat}{o:Op}{ty:TypeId}{pos:String}{aft:Array Edge}{v:Value}
  (hQ:∀c f f' w,Φ (.panic c) f w→Φ (.panic c) f' w) (hs:Region.noSelect ops=true) (hS:S w)
  (hi:ops[i]? =some ⟨some d,o,ty,pos,aft,none⟩) (hf:Region.free .any ops listed i=true) (hr:(Region.ready .any ops listed).contains i=true)
  (hy:∀w,S w→Yw P n fr o ty w v w) (hd:d<n.1) (h:RH P ops S n Φ fuel (listed.setIfInBounds i true) ((d,v)::fr) w):RH P ops S n Φ (fuel+1) listed fr w:=fun a ha=>
 wpAnyH_take hi hs hf hr (fun c a w ⟨f,hf,hp⟩=>⟨[],ju.nil (by simpa [Act.put]using hf.size) hf.defers,hQ c f [] w hp⟩)
  (.inl ⟨by simp [Region.wanted],fun w hw=>hy w hw a _ rfl rfl ha⟩) hS (h _ (ha.put hd v))
theorem RH.nP(i:Nat){d j dj:Nat}{b:Bool}{o:Op}{ty:TypeId}{pos:String}{aft:Array Edge}
  (hQ:∀c f f' w,Φ (.panic c) f w→Φ (.panic c) f' w) (hs:Region.noSelect ops=true) (hS:S w)
  (hi:ops[i]? =some ⟨some d,o,ty,pos,aft,some (j,b)⟩) (hf:Region.free .any ops listed i=true) (hr:(Region.ready .any ops listed).contains i=true)
  (hj:(ops[j]?).bind (·.dst)=some dj) (hg:fr.get dj=some (.bool (!b)))
  (hd:d<n.1) (h:RH P ops S n Φ fuel (listed.setIfInBounds i true) ((d,undef)::fr) w):RH P ops S n Φ (fuel+1) listed fr w:=fun a ha=>
 wpAnyH_take hi hs hf hr (fun c a w ⟨f,hf,hp⟩=>⟨[],ju.nil (by simpa [Act.put]using hf.size) hf.defers,hQ c f [] w hp⟩)
  (.inr ⟨by simp [Region.wanted,dL ha hj hg],rfl⟩) hS (h _ (ha.put hd undef))
theorem RS.st{i d:Nat}{o:Op}{ty:TypeId}{pos:String}{aft:Array Edge}{R:Value→World→Prop}
  (hi:ops[i]? =some ⟨some d,o,ty,pos,aft,none⟩) (hs:St P n fr o ty w R) (hd:d<n.1)
  (h:∀v w',R v w'→S w'∧RH P ops S n Φ fuel (listed.setIfInBounds i true) ((d,v)::fr) w'):RS P ops S n Φ fuel listed i fr w:=fun a ha=>by
 obtain⟨v,w',hr,hR⟩:=hs a ⟨some d,o,ty,pos,aft,none⟩ rfl rfl ha;obtain⟨h1,h2⟩:=h v w' hR;unfold wpOp;rw [hi];simp only [Region.wanted,if_true];refine .inl ?_;unfold Oper.wp;rw [hr];exact⟨h1,h2 _ (ha.put hd v)⟩
theorem RS.call{i:Nat}{d:Nat}{f:FuncId}{args:List Operand}{tys:Array TypeId}{ty:TypeId}{pos:String}{aft:Array Edge}{vs:List Value}{fn:Func}{R:Value→World→Prop}{g:Option (Nat×Bool)}
  (hi:ops[i]? =some ⟨some d,.call {callee:= .value (.func f),args:=args.toArray,argTypes:=tys},ty,pos,aft,g⟩)
  (hg:∀j b,g=some (j,b)→∃dj,(ops[j]?).bind (·.dst)=some dj∧fr.get dj=some (.bool b))
  (hf:P.funcs[f]? =some fn) (hb:fn.body.isNone=false) (hn:(fn.name== "runtime.NumGoroutine")=false)
  (he:pY fr args=some vs) (hC:Calls P f vs.toArray w (cB R)) (hd:d<n.1)
  (h:∀v w',R v w'→S w'∧RH P ops S n Φ fuel (listed.setIfInBounds i true) ((d,v)::fr) w'):RS P ops S n Φ fuel listed i fr w:=fun a ha=>by
 have hrun:(execOp a.eval ⟨some d,.call {callee:= .value (.func f),args:=args.toArray,argTypes:=tys},ty,pos,aft,g⟩).run P w= .ok (.enter f vs.toArray) w:=by
  have:=ha.pY he;simp [execOp,resolve,invoke,Deferred.ofValue,Act.eval,this,dT hf hb hn]
 have hw:Region.wanted ⟨some d,.call {callee:= .value (.func f),args:=args.toArray,argTypes:=tys},ty,pos,aft,g⟩ (yielded ops a.tmps)=true:=by
  cases g with
  |none=>simp [Region.wanted]
  |some jb=>
   obtain⟨j,b⟩:=jb;obtain⟨dj,h1,h2⟩:=hg j b rfl;simp [Region.wanted,dL ha h1 h2]
 unfold wpOp;rw [hi];simp only [hw,if_true];refine .inl ?_;unfold Oper.wp;rw [hrun];refine hC.mono fun e w' hr=>?_;cases e with
 |returned v=>obtain⟨h1,h2⟩:=h v w' hr;exact⟨h1,h2 _ (ha.put hd v)⟩
 |panicked ch=>exact hr.elim
 |outgrown=>exact hr.elim
end rh
theorem CW.held{P:Program}{n:NN}{Φ:Exit→Fr→World→Prop}{fr:Fr}{w:World}{id:Nat}{l:List Oper}(S:World→Prop)(hm:P.follows .mixedOrders=true)(m:Nat)(hl:l.length=m)
  (h:∀w',Ext w w'→RH P l.toArray S n Φ m (Array.replicate m false) fr w') (hR:tR n l Φ:=by first|exact .inl rfl|exact .inr ⟨rfl,fun _ _ h=>h⟩):CW P (.region id l.toArray true) n Φ fr w:=fun a ha=>
 nW hR hm (wpAny_of_held _ _ _ _ (by simp only [List.size_toArray,hl];exact h w.drew aE.drew a ha))
end Go.Fw
namespace Go.Fw
open Go.RowKit
theorem RH.tk(i:Nat){P:Program}{ops:Array Oper}{S:World→Prop}{n:NN}{Φ:Exit→Fr→World→Prop}{fr:Fr}{w:World}{fuel:Nat}{listed:Array Bool}{d:Nat}{o:Op}{ty:TypeId}{pos:String}{aft:Array Edge}{v:Value}(hS:S w)
  (hi:ops[i]? =some ⟨some d,o,ty,pos,aft,none⟩) (hy:∀w,S w→Yw P n fr o ty w v w) (h:RH P ops S n Φ fuel (listed.setIfInBounds i true) ((d,v)::fr) w)
  (hQ:∀c f f' w,Φ (.panic c) f w→Φ (.panic c) f' w:=by exact fun _ _ _ _ h=>h) (hs:Region.noSelect ops=true:=by kernel_rfl) (hf:Region.free .any ops listed i=true:=by kernel_rfl) (hr:(Region.ready .any ops listed).contains i=true:=by kernel_rfl) (hd:d<n.1:=by decide):RH P ops S n Φ (fuel+1) listed fr w:=
 RH.take i hQ hs hS hi hf hr hy hd h
end Go.Fw
namespace Go.Proofs.YtmehkigmnpjcjaaGreatDoor
open Go.RowKit Go.Fw Go.Proofs.Tryz
theorem qA:(prog.info? 42).map (·.size)=some 32:=by kernel_rfl
theorem qe:(prog.info? 62).map (·.size)=some 34:=by kernel_rfl
theorem G5:(prog.info? 64).map (·.size)=some 37:=by kernel_rfl
theorem IX:∀w,(sizeOf 5).run prog w= .ok 1 w:=fun w=>b5 aG
theorem qw:(prog.info? 3).map (·.size)=some 1:=by kernel_rfl
theorem eO:(prog.info? 4).map (·.size)=some 1:=by kernel_rfl
theorem fx:(prog.info? 5).map (·.size)=some 1:=by kernel_rfl
abbrev cg:=@fx
abbrev dq:=@qw
abbrev aJ:=@qA
abbrev ze:=@qe
abbrev bQ:=@G5
theorem fU:bh prog 62 0 0:=⟨_,_,1,underlying62,rfl,eO,by decide,rfl⟩
theorem cw:bh prog 62 1 1:=⟨_,_,32,underlying62,rfl,qA,by decide,rfl⟩
theorem bF:bh prog 62 2 33:=⟨_,_,1,underlying62,rfl,qw,by decide,rfl⟩
theorem dg:bh prog 64 0 0:=⟨_,_,1,underlying64,rfl,qw,by decide,rfl⟩
theorem fB:bh prog 64 1 1:=⟨_,_,1,underlying64,rfl,eO,by decide,rfl⟩
theorem bE:bh prog 64 2 2:=⟨_,_,34,underlying64,rfl,qe,by decide,rfl⟩
theorem jU:bh prog 64 3 36:=⟨_,_,1,underlying64,rfl,fx,by decide,rfl⟩
theorem ui:(prog.info? 9).map (·.size)=some 1:=by kernel_rfl
theorem Bc:(prog.info? 25).map (·.size)=some 1:=by kernel_rfl
theorem H5:(prog.info? 27).map (·.size)=some 1:=by kernel_rfl
theorem bC:bh prog 29 0 0:=⟨_,_,1,underlying29,rfl,Bc,by decide,rfl⟩
theorem fy:bh prog 29 1 1:=⟨_,_,1,underlying29,rfl,ui,by decide,rfl⟩
theorem fC:bh prog 29 2 2:=⟨_,_,1,underlying29,rfl,ui,by decide,rfl⟩
theorem bq:bh prog 29 3 3:=⟨_,_,1,underlying29,rfl,H5,by decide,rfl⟩
theorem E7:(prog.info? 29).map (·.size)=some 4:=by kernel_rfl
theorem bw(pv ov:Value)(au no:ByteArray):(prog.info? 29).map (·.size)=some (dt pv au no ov).length:=E7
theorem mixed:prog.follows .mixedOrders=true:=by kernel_rfl
theorem uG:prog.eqGuardType prog.depth 42=false:=by kernel_rfl
theorem vb:prog.eqGuardType prog.depth 62=false:=by kernel_rfl
theorem Eo:prog.eqGuardType prog.depth 64=false:=by kernel_rfl
theorem Ea:prog.stoodInHeld 62=false:=by kernel_rfl
theorem F2:prog.stoodInHeld 64=false:=by kernel_rfl
theorem mM(d:Nat)(a b:aD)(w:World):(Op.equalIn (d+2) 42 (cU a) (cU b)).run prog w= .ok (decide (a=b)) w:=by
 have h:=run_equalIn_bytes (P:=prog) w d 42 5 32 underlying42 underlying5 IX a.1 b.1 a.2 b.2;have e:(a.1==b.1)=decide (a=b):=by
  rw [Bool.eq_iff_iff];simp [Subtype.ext_iff]
 rw [e]at h;exact h
theorem sF{cs:Array Value}{off:Nat}{w:World}:(part 42 cs off).run prog w= .ok (.agg (cs.extract off (off+32))) w:=by
 simp [part,lM underlying42 rfl,b5 qA]
theorem D6{cs:Array Value}{off:Nat}{w:World}:(part 62 cs off).run prog w= .ok (.agg (cs.extract off (off+34))) w:=by
 simp [part,lM underlying62 rfl,b5 qe]
theorem jk{P:Program}{t:TypeId}{d:TypeDesc}{cs:Array Value}{off:Nat}{v:Value}{w:World}(hT:P.underlying t=some d)(hd:iD d=true)(hv:cs[off]? =some v):(part t cs off).run P w= .ok v w:=by
 simp [part,q4 hT hd,hv]
theorem AU(r:aF):(aX r).toArray[0]? =some (.bool r.own):=by simp [aX]
theorem Hm(r:aF):(aX r).toArray.extract 1 (1+32)=(aN r.c).toArray:=by
 have:=ag r.c;simp [aX,List.drop,List.take_append,this]
theorem Ho(r:aF):(aX r).toArray[33]? =some (.int .i64 r.n):=by simpa using lK r
theorem Gl(x:ct):(eM x).toArray[0]? =some (.int .i64 x.kind):=by simp [eM]
theorem FI(x:ct):(eM x).toArray[1]? =some (.bool x.left):=by simp [eM]
theorem ID(x:ct):(eM x).toArray.extract 2 (2+34)=(aX x.at_).toArray:=by
 have:=ax x.at_;simp [eM,List.drop,List.take_append,this]
theorem GC(x:ct):(eM x).toArray[36]? =some (.int .u8 (x.byte.toNat:Int)):=by have:=uf x;simpa [bc]using this
theorem r7:∃f0 f1 f2:Field,(prog.fieldsOf 62).toList=[f0,f1,f2]∧f0.name≠ "_" ∧f1.name≠ "_" ∧f2.name≠ "_" ∧f0.type=4∧f1.type=42∧f2.type=3∧f0.offset=0∧f1.offset=1∧f2.offset=33:=by
 refine⟨_,_,_,(by simp only [Program.fieldsOf,underlying62];rfl),?_,?_,?_,rfl,rfl,rfl,rfl,rfl,rfl⟩<;>decide
theorem Fg:prog.underlying 62=some (.struct (prog.fieldsOf 62)):=by simp only [Program.fieldsOf,underlying62]
theorem pD(d:Nat)(a b:aF)(w:World):(Op.equalIn (d+3) 62 (dE a) (dE b)).run prog w= .ok (decide (a=b)) w:=by
 rw [run_equalIn_struct (P:=prog) w (d+2) _ _ _ Fg Ea];obtain⟨f0,f1,f2,hf,n0,n1,n2,t0,t1,t2,o0,o1,o2⟩:=r7;rw [hf];simp only [Op.eqFields,Sem.run_ite,Sem.run_pure,n0,n1,n2,t0,t1,t2,o0,o1,o2,ne_eq,not_false_eq_true,if_true,Sem.run_bind,jk underlying4 rfl (AU _),jk underlying3 rfl (Ho _),sF,Hm,Result.andThen_ok,mM,
  run_equalIn_bool' w _ _ _ _ underlying4,run_equalIn_int w _ _ _ _ _ _ underlying3]
 obtain⟨ao,ac,an⟩:=a;obtain⟨bo,bc',bn⟩:=b;by_cases h0:ao=bo<;>by_cases h1:ac=bc'<;>by_cases h2:an=bn<;>simp [h0,h1,h2]
theorem CT:∃f0 f1 f2 f3:Field,(prog.fieldsOf 64).toList=[f0,f1,f2,f3]∧f0.name≠ "_" ∧f1.name≠ "_" ∧f2.name≠ "_" ∧f3.name≠ "_" ∧f0.type=3∧f1.type=4∧f2.type=62∧f3.type=5∧
  f0.offset=0∧f1.offset=1∧f2.offset=2∧f3.offset=36:=by
 refine⟨_,_,_,_,(by simp only [Program.fieldsOf,underlying64];rfl),?_,?_,?_,?_,rfl,rfl,rfl,rfl,rfl,rfl,rfl,rfl⟩<;>decide
theorem IY:prog.underlying 64=some (.struct (prog.fieldsOf 64)):=by simp only [Program.fieldsOf,underlying64]
theorem GA(d:Nat)(a b:ct)(w:World):(Op.equalIn (d+4) 64 (Bz a) (Bz b)).run prog w= .ok (decide (a=b)) w:=by
 rw [run_equalIn_struct (P:=prog) w (d+3) _ _ _ IY F2];obtain⟨f0,f1,f2,f3,hf,n0,n1,n2,n3,t0,t1,t2,t3,o0,o1,o2,o3⟩:=CT;rw [hf];simp only [Op.eqFields,Sem.run_ite,Sem.run_pure,n0,n1,n2,n3,t0,t1,t2,t3,o0,o1,o2,o3,ne_eq,not_false_eq_true,if_true,Sem.run_bind,jk underlying4 rfl (FI _),jk underlying3 rfl (Gl _),jk underlying5 rfl (GC _),D6,ID,Result.andThen_ok,pD,
  run_equalIn_bool' w _ _ _ _ underlying4,run_equalIn_int w _ _ _ _ _ _ underlying3,run_equalIn_int w _ _ _ _ _ _ underlying5]
 obtain⟨ak,al,aa,ab⟩:=a;obtain⟨bk,bl,ba,bb⟩:=b;have hb:((ab.toNat:Int)==(bb.toNat:Int))=decide (ab=bb):=by
  rw [Bool.eq_iff_iff];simp [←UInt8.toNat_inj];omega
 simp only [hb];by_cases h0:ak=bk<;>by_cases h1:al=bl<;>by_cases h2:aa=ba<;>by_cases h3:ab=bb<;>simp [h0,h1,h2,h3]
theorem fw(w:World):(Instr.build 42 #[]).run prog w= .ok (cU aD.zero) w:=by kernel_rfl
theorem iw(w:World):(Instr.build 62 #[]).run prog w= .ok (dE aF.zero) w:=by kernel_rfl
theorem aj(d:aD):(prog.info? 42).map (·.size)=some (aN d).length:=by rw [ag];exact qA
theorem aT(r:aF):(prog.info? 62).map (·.size)=some (aX r).length:=by rw [ax];exact qe
theorem eA(x:ct):(prog.info? 64).map (·.size)=some (eM x).length:=by rw [aC];exact G5
theorem et:∃i:TypeInfo,prog.info? 42=some i∧i.zero=some (.agg (aN aD.zero).toArray)∧i.size=32:=by
 have h:(prog.info? 42).map (fun i=>(i.zero,i.size))=some (some (.agg (aN aD.zero).toArray),32):=by kernel_rfl
 cases hi:prog.info? 42 with
 |none=>simp [hi]at h
 |some i=>simp [hi]at h;exact⟨i,rfl,h.1,h.2⟩
theorem ck{n:NN}{Φ:Exit→Fr→World→Prop}{fr:Fr}{w:World}{ops:Array Oper}{rest:List Oper}{d:Nat}{x:Operand}{ty ty':TypeId}{pos pos':String}{aft aft':Array Edge}{v:aD}
  (hx:ev fr x=some (.agg (aN v).toArray)) (hxd:x≠.tmp d) (hd:d<n.1)
  (h:∀g w',Ext w w'→w.heap.size≤g→aK w' g 42 (aN v)→WL prog ops n Φ rest ((d,.pointer (some ⟨g,0,none⟩))::fr) w'):
  WL prog ops n Φ (⟨some d,.alloc 42,ty,pos,aft,none⟩::⟨none,.store 42 (.tmp d) x,ty',pos',aft',none⟩::rest) fr w:=by
 obtain⟨i,hi,hz,hs⟩:=et;exact WL.dH (zs:=aN aD.zero) hi hz rfl (by rw [hs,ag]) (by rw [ag,ag]) hx hxd rfl bV hd h
theorem gd:∃i:TypeInfo,prog.info? 62=some i∧i.zero=some (.agg (aX aF.zero).toArray)∧i.size=34:=by
 have h:(prog.info? 62).map (fun i=>(i.zero,i.size))=some (some (.agg (aX aF.zero).toArray),34):=by kernel_rfl
 cases hi:prog.info? 62 with
 |none=>simp [hi]at h
 |some i=>simp [hi]at h;exact⟨i,rfl,h.1,h.2⟩
theorem jQ{n:NN}{Φ:Exit→Fr→World→Prop}{fr:Fr}{w:World}{ops:Array Oper}{rest:List Oper}{d:Nat}{x:Operand}{ty ty':TypeId}{pos pos':String}{aft aft':Array Edge}{v:aF}
  (hx:ev fr x=some (.agg (aX v).toArray)) (hxd:x≠.tmp d) (hd:d<n.1)
  (h:∀g w',Ext w w'→w.heap.size≤g→aK w' g 62 (aX v)→WL prog ops n Φ rest ((d,.pointer (some ⟨g,0,none⟩))::fr) w'):
  WL prog ops n Φ (⟨some d,.alloc 62,ty,pos,aft,none⟩::⟨none,.store 62 (.tmp d) x,ty',pos',aft',none⟩::rest) fr w:=by
 obtain⟨i,hi,hz,hs⟩:=gd;exact WL.dH (zs:=aX aF.zero) hi hz rfl (by rw [hs,ax]) (by rw [ax,ax]) hx hxd rfl dN hd h
theorem oF:∃i:TypeInfo,prog.info? 64=some i∧i.zero=some (.agg (eM (⟨0,false,aF.zero,0⟩:ct)).toArray)∧i.size=37:=by
 have h:(prog.info? 64).map (fun i=>(i.zero,i.size))=some (some (.agg (eM (⟨0,false,aF.zero,0⟩:ct)).toArray),37):=by kernel_rfl
 cases hi:prog.info? 64 with
 |none=>simp [hi]at h
 |some i=>simp [hi]at h;exact⟨i,rfl,h.1,h.2⟩
theorem lF{n:NN}{Φ:Exit→Fr→World→Prop}{fr:Fr}{w:World}{ops:Array Oper}{rest:List Oper}{d:Nat}{x:Operand}{ty ty':TypeId}{pos pos':String}{aft aft':Array Edge}{v:ct}
  (hx:ev fr x=some (.agg (eM v).toArray)) (hxd:x≠.tmp d) (hd:d<n.1)
  (h:∀g w',Ext w w'→w.heap.size≤g→aK w' g 64 (eM v)→WL prog ops n Φ rest ((d,.pointer (some ⟨g,0,none⟩))::fr) w'):
  WL prog ops n Φ (⟨some d,.alloc 64,ty,pos,aft,none⟩::⟨none,.store 64 (.tmp d) x,ty',pos',aft',none⟩::rest) fr w:=by
 obtain⟨i,hi,hz,hs⟩:=oF;exact WL.dH (zs:=eM (⟨0,false,aF.zero,0⟩:ct)) hi hz rfl (by rw [hs,aC]) (by rw [aC,aC]) hx hxd rfl jM hd h
section Y
variable {n:NN} {fr:Fr} {w:World} {ty:TypeId} {x y:Operand} {t':TypeId}
theorem Y.dD{a b:aD}(hx:ev fr x=some (cU a))(hy:ev fr y=some (cU b)):Yw prog n fr (.binOp .eql 42 x y t') ty w (.bool (decide (a=b))) w:=
 Y.bin hx hy (run_eqGuard_agg w _ _ _ _ _ _ uG) (by rw [run_eql_struct,mM 9998];rfl)
theorem Y.jg{a b:aD}(hx:ev fr x=some (cU a))(hy:ev fr y=some (cU b)):Yw prog n fr (.binOp .neq 42 x y t') ty w (.bool (!decide (a=b))) w:=
 Y.bin hx hy (run_eqGuard_agg w _ _ _ _ _ _ uG) (by rw [run_neq_struct,mM 9998];rfl)
theorem Y.oI{a b:aF}(hx:ev fr x=some (dE a))(hy:ev fr y=some (dE b)):Yw prog n fr (.binOp .eql 62 x y t') ty w (.bool (decide (a=b))) w:=
 Y.bin hx hy (run_eqGuard_agg w _ _ _ _ _ _ vb) (by rw [run_eql_struct,pD 9997];rfl)
theorem Y.yB{a b:aF}(hx:ev fr x=some (dE a))(hy:ev fr y=some (dE b)):Yw prog n fr (.binOp .neq 62 x y t') ty w (.bool (!decide (a=b))) w:=
 Y.bin hx hy (run_eqGuard_agg w _ _ _ _ _ _ vb) (by rw [run_neq_struct,pD 9997];rfl)
theorem Y.BJ{a b:ct}(hx:ev fr x=some (Bz a))(hy:ev fr y=some (Bz b)):Yw prog n fr (.binOp .neq 64 x y t') ty w (.bool (!decide (a=b))) w:=
 Y.bin hx hy (run_eqGuard_agg w _ _ _ _ _ _ Eo) (by rw [run_neq_struct,GA 9996];rfl)
end Y
end Go.Proofs.YtmehkigmnpjcjaaGreatDoor
namespace Go.Fw
open Go.RowKit
def fk(e:TypeId)(w:World)(v:Value)(xs:List UInt8)(w':World)(v':Value)(ys:List UInt8):Prop:=
 Own w' e 1 v' (az (xs++ys))∧aE (fun g=>v.ownBlock=some g) w w'∧(v'.ownBlock=v.ownBlock∨∀g,v'.ownBlock=some g→w.heap.size≤g)
section
variable {e:TypeId} {w w1 w2:World} {v v1 v2:Value} {xs ys zs:List UInt8} {g:Nat} {t:TypeId} {cs:List Value} {a:Addr}
theorem fk.refl(h:Own w e 1 v (az xs)):fk e w v xs w v []:=⟨by simpa using h,aE.refl,.inl rfl⟩
theorem fk.trans(h:fk e w v xs w1 v1 ys)(k:fk e w1 v1 (xs++ys) w2 v2 zs):fk e w v xs w2 v2 (ys++zs):=by
 obtain⟨h1,h2,h3⟩:=h;obtain⟨k1,k2,k3⟩:=k;refine⟨by rw [←List.append_assoc];exact k1,h2.trans k2 fun i hi hh=>?_,?_⟩
 ·rcases h3 with h3|h3
  ·rw [←h3];exact hh
  ·have:=h3 i hh;omega
 ·rcases k3 with k3|k3
  ·rcases h3 with h3|h3
   ·exact .inl (k3.trans h3)
   ·exact .inr fun g hg=>h3 g (by rw [←k3];exact hg)
  ·exact .inr fun g hg=>Nat.le_trans h2.size (k3 g hg)
theorem fk.zu(h:Ext w w1)(k:fk e w1 v xs w2 v2 ys):fk e w v xs w2 v2 ys:=by
 obtain⟨k1,k2,k3⟩:=k;refine⟨k1,(h.aA).trans k2 fun i _ hh=>hh,?_⟩;rcases k3 with k3|k3
 ·exact .inl k3
 ·exact .inr fun g hg=>Nat.le_trans h.size (k3 g hg)
theorem fk.vj(h:fk e w v xs w1 v1 ys)(k:Ext w1 w2):fk e w v xs w2 v1 ys:=⟨h.1.ext k,h.2.1.ae k,h.2.2⟩
theorem fk.ou(h:fk e w (.slice none 0 0) xs w1 v1 ys):Ext w w1:=h.2.1.sD fun i _ hh=>by simp [Value.ownBlock]at hh
theorem fk.sY(h:fk e w (.slice none 0 0) [] w1 v1 ys):Own w1 e 1 v1 (az ys):=by simpa using h.1
theorem fk.bY(h:fk e w v xs w1 v1 ys)(hb:aK w g t cs)(hn:v.ownBlock≠some g):aK w1 g t cs:=hb.aA h.2.1 hn
theorem fk.vF(h:fk e w v xs w1 v1 ys)(hg:g<w.heap.size)(hn:v.ownBlock≠some g):v1.ownBlock≠some g:=by
 rcases h.2.2 with h|h
 ·rw [h];exact hn
 ·intro e;have:=h g e;omega
end
section
variable {P:Program} {n:NN} {fr:Fr} {w:World} {ty:TypeId}
theorem Y.CI{x y:Operand}{k:IntKind}{p q:Int}{t t':TypeId}{r:Int}(hx:ev fr x=some (.int k p))(hy:ev fr y=some (.int k q))(hr:k.wrap ((BitVec.ofInt k.bits p|||BitVec.ofInt k.bits q).toNat:Int)=r):Yw P n fr (.binOp .or t x y t') ty w (.int k r) w:=
 Y.bin hx hy (by simp [eqGuard_at_int]) (by
  have e:binOp .or t (.int k p) (.int k q)=pure (.int k r):=by simp only [binOp,ne_eq,not_true_eq_false,if_false,Op.intBits,hr]
  rw [e];rfl)
theorem Y.shr{x y:Operand}{k k':IntKind}{p q r:Int}{t t':TypeId}(hx:ev fr x=some (.int k p))(hy:ev fr y=some (.int k' q))(hq:0≤q)(hr:p.fdiv (2^(min q.toNat k.bits))=r):Yw P n fr (.binOp .shr t x y t') ty w (.int k r) w:=
 Y.bin hx hy (by simp [eqGuard_at_int]) (by simp [binOp,Op.shift,Int.not_lt.2 hq,hr])
theorem St.app{s x:Operand}{v xv:Value}{t u e e':TypeId}{b:Nat}{xs ys:List UInt8}{m:Nat}
  (ht:P.underlying t=some (.slice e)) (hud:P.underlying u=some (.slice e')) (hi:eP P e 1 b) (hs:ev fr s=some v) (hx:ev fr x=some xv)
  (hown:Own w e 1 v (az xs)) (hsrc:Src P w 1 xv m (az ys)) (hroom:(xs.length+m)*b≤140737488355328):
  St P n fr (.call {callee:= .builtin .append,args:=#[s,x],argTypes:=#[t,u]}) ty w (fun v' w'=>fk e w v xs w' v' ys):=by
 intro a o' ho hty ha;obtain⟨v',w',hr,hR⟩:=St.append (n:=n) (ty:=ty) ht hud hi hs hx hown hsrc iW (by simpa [aS]using hroom) a o' ho hty ha;exact⟨v',w',hr,by rw [cr];exact hR.1,hR.2.1,hR.2.2⟩
theorem St.J0{s x:Operand}{v:Value}{str:ByteArray}{t u e:TypeId}{b:Nat}{xs:List UInt8}
  (ht:P.underlying t=some (.slice e)) (hud:P.underlying u=some .string) (hi:eP P e 1 b) (hs:ev fr s=some v) (hx:ev fr x=some (.string str))
  (hown:Own w e 1 v (az xs)) (hroom:(xs.length+str.size)*b≤140737488355328):
  St P n fr (.call {callee:= .builtin .append,args:=#[s,x],argTypes:=#[t,u]}) ty w (fun v' w'=>fk e w v xs w' v' str.toList):=by
 intro a o' ho hty ha;obtain⟨v',w',hr,hR⟩:=St.GW (n:=n) (ty:=ty) ht hud hi hs hx hown (by simpa [aS]using hroom) a o' ho hty ha;exact⟨v',w',hr,by rw [cr];exact hR.1,hR.2.1,hR.2.2⟩
theorem Src.own{e:TypeId}{v:Value}{ys:List UInt8}(h:Own w e 1 v (az ys)):Src P w 1 v ys.length (az ys):=by
 obtain⟨A,n,c,rfl⟩:=h.lens;obtain⟨hm,hn,hl,_⟩:=h.mem A n c rfl;have:n=ys.length:=by rw [aS]at hl;omega
 subst this;exact Src.slice (by simpa using hl) hm
theorem Src.arr{a:Addr}{ys:List UInt8}{c:Nat}(h:Mem w a (az ys)):Src P w 1 (.slice (some a) ys.length c) ys.length (az ys):=Src.slice (by rw [aS];omega) fun _=>⟨a,rfl,h⟩
end
end Go.Fw
namespace Go.Proofs.YtmehkigmnpjcjaaGreatDoor
open Go.RowKit Go.Fw Go.Proofs.Tryz
theorem jl:eP prog 5 1 1:=by
 have h:(prog.info? 5).map (fun i=>(i.size,i.bytes,i.zero))=some (1,1,some (.int .u8 0)):=by kernel_rfl
 obtain⟨i,hi,h⟩:=Option.map_eq_some_iff.1 h;injection h with h1 h2
 injection h2 with h2 h3
 exact⟨i,_,hi,h3,h1,rfl,h2,by decide,by decide⟩
theorem Bg(b:Int)(w:World):(Instr.buildSlice 142 1 [(0,Value.int .u8 b)].toArray).run prog w= .ok (.slice (some ⟨w.heap.size,0,none⟩) 1 1) (w.alloc (.cells [Value.int .u8 b].toArray 5)):=by
 obtain⟨i,z,hi,hz,hk,hzs,hb,_⟩:=jl;obtain⟨zc,hzc⟩:∃c,z.cells= #[c]:=by
  match h:z.cells with
  |⟨[]⟩=>simp [h]at hzs
  |⟨[c]⟩=>exact⟨c,rfl⟩
  |⟨_::_::_⟩=>simp [h]at hzs
 have hr1:Array.range 1= #[0]:=by decide
 have hc:(Value.int .u8 b).cells= #[Value.int .u8 b]:=rfl;simp [Instr.buildSlice,run_underlying underlying142,sizeOf,typeInfo,hi,hk,zeroValue,hz,hzc,Instr.fill,newRow,hr1,hc]
end Go.Proofs.YtmehkigmnpjcjaaGreatDoor
namespace Go.Fw
open Go.RowKit
theorem Src.Ir{P:Program}{w:World}{a:Addr}{d:aD}(h:Mem w a (aN d)):Src P w 1 (.slice (some a) 32 32) 32 (az d.1):=Src.slice (by rw [aS,d.2]) fun _=>⟨a,rfl,h⟩
theorem il{P:Program}{t e:TypeId}{ie:TypeInfo}{z:Value}{v:Value}{cs:List Value}(hu:P.underlying t=some (.slice e))(hi:P.info? e=some ie)(hz:ie.zero=some z)(h0:0<ie.size)(hsm:ie.size≤16777216)(hv:v.cells=cs.toArray)(hl:cs.length=ie.size)(w:World):
  (Instr.buildSlice t 1 [(0,v)].toArray).run P w= .ok (.slice (some ⟨w.heap.size,0,none⟩) 1 1) (w.alloc (.cells cs.toArray e)):=by
 refine run_buildSlice w t e 1 _ _ ie z hu hi hz ai ai ?_;have h:=Go.Great.fill_whole (s:=ie.size) h0 [v] ((Array.range (1*ie.size)).map (z.cells[· % z.cells.size]!)) (by intro u hu;simp at hu;subst hu;rw [hv];simpa using hl) aL;simpa [hv]using h
theorem aO{α:Type}{enc:α→List Value}{k:Nat}(he:∀x,(enc x).length=k):∀xs:List α,((xs.map enc).flatten).length=xs.length*k
 | []=>by simp
 |x::xs=>by simp only [List.map_cons,List.flatten_cons,List.length_append,he,aO he xs,List.length_cons,Nat.succ_mul];omega
theorem A6{α:Type}{enc:α→List Value}{k:Nat}(he:∀x,(enc x).length=k):∀(xs:List α) (i:Nat) (x:α),xs[i]? =some x→∀j v,(enc x)[j]? =some v→((xs.map enc).flatten)[i*k+j]? =some v
 | [],i,x,h,_,_,_=>by simp at h
 |y::xs,0,x,h,j,v,hv=>by
  simp at h;subst h;have hj:j<(enc y).length:=(List.getElem?_eq_some_iff.1 hv).1;simp only [List.map_cons,List.flatten_cons,Nat.zero_mul,Nat.zero_add];rw [List.getElem?_append_left hj];exact hv
 |y::xs,i+1,x,h,j,v,hv=>by
  have h':xs[i]? =some x:=by simpa using h
  have:=A6 he xs i x h' j v hv;simp only [List.map_cons,List.flatten_cons];rw [List.getElem?_append_right (by rw [he,Nat.succ_mul];omega),he,show(i+1)*k+j-k=i*k+j by rw [Nat.succ_mul];omega];exact this
theorem Own.sl{α:Type}{w:World}{e:TypeId}{k:Nat}{v:Value}{enc:α→List Value}{xs:List α}(h:Own w e k v ((xs.map enc).flatten))(he:∀x,(enc x).length=k)(hk:0<k):Sl w enc k v xs:=by
 obtain⟨A,m,c,rfl⟩:=h.lens;obtain⟨hm,hn,hl,hmc,hcm⟩:=h.mem A m c rfl;rw [aO he]at hl;have hlm:xs.length=m:=Nat.eq_of_mul_eq_mul_right hk hl;refine⟨A,m,c,rfl,hlm,hmc,hcm,fun i x hi=>?_⟩;have hi':=(List.getElem?_eq_some_iff.1 hi).1;obtain⟨a,rfl,hM⟩:=hm ai;refine⟨a,rfl,hM.sub (i*k) fun j v hj=>A6 he xs i x hi j v hj⟩
theorem Src.one{P:Program}{w:World}{g k:Nat}{t:TypeId}{cs:List Value}(h:aK w g t cs)(hl:cs.length=k):Src P w k (.slice (some ⟨g,0,none⟩) 1 1) 1 cs:=Src.slice ai fun _=>⟨_,rfl,h.mem⟩
end Go.Fw
namespace Go.Proofs.YtmehkigmnpjcjaaGreatDoor
open Go.RowKit Go.Fw Go.Proofs.Tryz
theorem fR:eP prog 42 32 32:=by
 have h:(prog.info? 42).map (fun i=>(i.size,i.bytes,i.zero))=some (32,32,some (.agg (aN aD.zero).toArray)):=by kernel_rfl
 obtain⟨i,hi,h⟩:=Option.map_eq_some_iff.1 h;injection h with h1 h2
 injection h2 with h2 h3
 exact⟨i,_,hi,h3,h1,by show(aN aD.zero).toArray.size=32;simp [ag],h2,by decide,by decide⟩
theorem q5:eP prog 64 37 72:=by
 have h:(prog.info? 64).map (fun i=>(i.size,i.bytes,i.zero))=some (37,72,some (.agg (eM ⟨0,false,aF.zero,0⟩).toArray)):=by kernel_rfl
 obtain⟨i,hi,h⟩:=Option.map_eq_some_iff.1 h;injection h with h1 h2
 injection h2 with h2 h3
 exact⟨i,_,hi,h3,h1,by show(eM _).toArray.size=37;simp [aC],h2,by decide,by decide⟩
theorem kI(d:aD)(w:World):(Instr.buildSlice 25 1 [(0,cU d)].toArray).run prog w= .ok (.slice (some ⟨w.heap.size,0,none⟩) 1 1) (w.alloc (.cells (aN d).toArray 42)):=by
 obtain⟨i,z,hi,hz,hk,_⟩:=fR;exact il underlying25 hi hz ai ai rfl (by rw [ag,hk]) w
theorem qh(x:ct)(w:World):(Instr.buildSlice 27 1 [(0,Bz x)].toArray).run prog w= .ok (.slice (some ⟨w.heap.size,0,none⟩) 1 1) (w.alloc (.cells (eM x).toArray 64)):=by
 obtain⟨i,z,hi,hz,hk,_⟩:=q5;exact il underlying27 hi hz ai ai rfl (by rw [aC,hk]) w
abbrev cn(ps:List aD):List Value:=(ps.map aN).flatten
abbrev jF(os:List ct):List Value:=(os.map eM).flatten
end Go.Proofs.YtmehkigmnpjcjaaGreatDoor
namespace Go.Fw
theorem dd{v:Value}(h:v.oneCell'=true):∀u∈[v],u.oneCell'=true:=by intro u hu;simp at hu;subst hu;exact h
end Go.Fw
namespace Go.Proofs.YtmehkigmnpjcjaaGreatDoor
open Go.RowKit Go.Fw Go.Proofs.Tryz
theorem qR(n:Nat):IntKind.u8.wrap (n:Int)=((UInt8.ofNat n).toNat:Int):=by simp [IntKind.wrap,IntKind.bits,IntKind.signed]
theorem aK.Gt{w:World}{g:Nat}{b:UInt8}(h:aK w g 5 [Value.int .u8 (b.toNat:Int)]):Src prog w 1 (.slice (some ⟨g,0,none⟩) 1 1) 1 (az [b]):=Src.slice (by rfl) fun _=>⟨_,rfl,h.mem⟩
end Go.Proofs.YtmehkigmnpjcjaaGreatDoor
