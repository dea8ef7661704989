/- Parts of a proof: what its last text leans on. No condition. -/
import Derived.Test.YtmehkigmnpjcjaaGreatDoorK23
set_option linter.unusedSimpArgs false
set_option linter.unusedVariables false
namespace Go.Fu
open Go.Fw Go.Pl
def pq(e:List El)(r:aF):Int:=match kX e r with
 |some i=>(i:Int)
 |none=> -1
theorem zw{e:List El}{r:aF}{i:Nat}{x:El}(hx:e[i]? =some x)(hn:x.name=r)(hb:∀(j:Nat) (y:El),j<i→e[j]? =some y→y.name≠r):pq e r=(i:Int):=by
 rw [pq,lD.2 ⟨x,hx,hn,hb⟩]
theorem yP{e:List El}{r:aF}(hb:∀(j:Nat) (y:El),j<e.length→e[j]? =some y→y.name≠r):pq e r= -1:=by
 have:kX e r=none:=iz.2 fun x hx=>by
  obtain⟨j,hj⟩:=List.mem_iff_getElem?.1 hx;exact hb j x (List.getElem?_eq_some_iff.1 hj).1 hj
 rw [pq,this]
def dc(f:Nat→Bool)(n:Nat)(s:List Nat×Bool)(y:Nat):List Nat×Bool:=if s.2=false∧f y=true then(s.1++[n]++[y],true)else(s.1++[y],s.2)
theorem rX{f:Nat→Bool}{n:Nat}:∀(l o:List Nat),l.foldl (dc f n) (o,true)=(o++l,true)
 | [],o=>by simp
 |y::r,o=>by
  rw [List.foldl_cons];show r.foldl (dc f n) (dc f n (o,true) y)=_;have:dc f n (o,true) y=(o++[y],true):=by simp [dc]
  rw [this,rX r];simp
theorem uP{f:Nat→Bool}{n:Nat}:∀(l o:List Nat),(if(l.foldl (dc f n) (o,false)).2=true then(l.foldl (dc f n) (o,false)).1 else(l.foldl (dc f n) (o,false)).1++[n])=o++kz f n l
 | [],o=>by simp [kz]
 |y::r,o=>by
  rw [List.foldl_cons,kz];by_cases h:f y=true
  ·have:dc f n (o,false) y=(o++[n]++[y],true):=by simp [dc,h]
   rw [this,rX,if_pos rfl,if_pos h];simp
  ·have:dc f n (o,false) y=(o++[y],false):=by simp [dc,h]
   rw [this,if_neg h,uP r];simp
theorem yg{β:Type}{g:β→Nat→β}{b:β}{l:List Nat}{k c:Nat}(h:l[k]? =some c):(l.take (k+1)).foldl g b=g ((l.take k).foldl g b) c:=by
 rw [List.take_add_one,h];simp
theorem p5{f:Nat→Bool}{n:Nat}:∀(l:List Nat) (s:List Nat×Bool),(l.foldl (dc f n) s).1.length≤s.1.length+2*l.length
 | [],s=>by simp
 |y::r,s=>by
  rw [List.foldl_cons];have:=p5 (f:=f) (n:=n) r (dc f n s y);have h2:(dc f n s y).1.length≤s.1.length+2:=by unfold dc;split<;>simp
  simp only [List.length_cons];omega
end Go.Fu
namespace Go.Fw
abbrev iC(m:Nat):List Value:=[.int .i64 (m:Int)]
theorem BA(l:List Nat):fe l=(l.map iC).flatten:=by
 unfold fe;induction l with
 |nil=>rfl
 |cons a r ih=>simp only [List.map_cons,List.flatten_cons,ih];rfl
theorem mG(a b:List Nat):fe (a++b)=fe a++fe b:=by simp [fe]
theorem mz{l:List Nat}:∀u∈fe l,u.oneCell'=true:=by
 intro u hu;obtain⟨m,_,rfl⟩:=List.mem_map.1 hu;rfl
theorem ik{e:TypeId}{w:World}{l:List Nat}{A:Option Addr}{m c:Nat}(h:Own w e 1 (.slice A m c) (fe l)):l.length=m∧∀i q,l[i]? =some q→∃a,A=some a∧Mem w (a.add (i*1)) (iC q):=by
 have h1:=(h.mem A m c rfl).2.2.1;rw [gV,Nat.mul_one]at h1;rw [BA]at h;exact⟨h1,fun i q hq=>(h.sl (fun _=>rfl) aw).get hq⟩
end Go.Fw
namespace Go.Proofs.YtmehkigmnpjcjaaGreatDoor
open Go.RowKit Go.Fw Go.Fu Go.Pl Go.Proofs.Tryz
abbrev UI:=underlying23
abbrev tH:TypeId:=3
theorem qv:eP prog tH 1 8:=by
 have h:(prog.info? tH).map (fun i=>(i.size,i.bytes,i.zero))=some (1,8,some (.int .i64 0)):=by kernel_rfl
 obtain⟨i,hi,h⟩:=Option.map_eq_some_iff.1 h;injection h with h1 h2
 injection h2 with h2 h3
 exact⟨i,_,hi,h3,h1,rfl,h2,by decide,by decide⟩
theorem oY(c:Int)(w:World):(Instr.buildSlice 23 1 [(0,Value.int .i64 c)].toArray).run prog w= .ok (.slice (some ⟨w.heap.size,0,none⟩) 1 1) (w.alloc (.cells [Value.int .i64 c].toArray tH)):=by
 obtain⟨i,z,hi,hz,hs,_,_,h0,_⟩:=qv;exact il UI hi hz ai ai rfl (by rw [hs];rfl) w
theorem Dx(w:World):Calls prog 37 #[] w (cB fun v w'=>∃g ev_,v= .pointer (some ⟨g,0,none⟩)∧w.heap.size≤g∧(∀k,ev_.ownBlock=some k→w.heap.size≤k)∧ey w' g [] [⟨El.root,.slice none 0 0,.slice none 0 0⟩] (.slice none 0 0) ev_∧Ext w w'):=by
 refine ar 5 [0] [] func37 rfl rfl rfl aL ve ?_;have hE:Ext w w:=aE.refl;refine CW.sr fun K1 hK1=>WL.a rfl<|WL.nil (hK1 _ _ ?_);clear hK1;refine CW.sr fun K2 hK2=>WL.v (Y.build rfl (xC _))<|WL.st (St.buildSlice rfl (sA ⟨El.root,.slice none 0 0,.slice none 0 0⟩)) aw fun v2 w1 hR1=>?_;obtain⟨g2,rfl,hg2,hB2,hx1⟩:=hR1;have hz1:=hx1.size;have hE:=hE.ae hx1;refine WL.v (Y.build rfl (xI _ rfl _))<|WL.box rfl rfl aw fun g4 w2 hx2 hg4 hB4=>?_;have hlt4:=hB4.lt;have hz2:=hx2.size;have hE:=hE.ae hx2;refine WL.a rfl<|WL.nil (hK2 _ _ ?_);clear hK2;refine CW.ret ⟨_,rfl,?_⟩;exact⟨_,_,rfl,by omega,(fun k hk=>by simp [Value.ownBlock]at hk;omega),⟨hB4,Own.nil,.inr ⟨g2,1,1,[],(0,0),rfl,(by have h9:w2.heap[g2]? =_:=hB2.ext hx2;simpa using h9),by simp [gu],by omega,by unfold maxLen;omega,by simp [gu],fun o _=>by simp⟩,fun x hx s=>by
  simp at hx;subst hx;cases s<;>exact Own.nil⟩,hE⟩
theorem vh(g:Nat)(ad:List aD)(rs:List Rn)(av ev_:Value)(r:aF)(w:World)(hR:ey w g ad rs av ev_)(hn:rs.length≤400001):Calls prog 67 #[.pointer (some ⟨g,0,none⟩),dE r] w (cB fun v w'=>v= .int .i64 (pq (ay rs) r)∧Ext w w'):=by
 obtain⟨A,m,c,rfl⟩:=hR.es.lens;have hsl:=hR.sl;have hel:(ay rs).length=rs.length:=List.length_map _;have hmm:rs.length=m∧m≤c∧c≤maxLen:=by
  obtain⟨A',m',c',e,h1,h2,h3,_⟩:=hsl;injection e with e1 e2 e3
  exact⟨by omega,by omega,by omega⟩
 unfold maxLen at hmm;have hat:∀i x,rs[i]? =some x→∃a,A=some a∧Mem w (a.add (i*38)) (rC x):=fun i x hx=>hsl.get hx;have hxe:∀(i:Nat) (x:Rn),rs[i]? =some x→(ay rs)[i]? =some x.el:=fun i x hx=>by rw [List.getElem?_map,hx];rfl
 refine ar 26 [4] [(0,.pointer (some ⟨g,0,none⟩)),(1,dE r)] func67 rfl rfl rfl aL cz ?_;have hE:Ext w w:=aE.refl;refine CW.sr fun K1 hK1=>WL.box rfl rfl aw fun g3 w1 hx1 hg3 hB3=>?_;have hlt3:=hB3.lt;have hz1:=hx1.size;have hE:=hE.ae hx1;refine WL.a rfl<|WL.nil (hK1 _ _ ?_);clear hK1;refine CW.seq fun K2 hK2=>CW.sr fun K3 hK3=>WL.a rfl<|WL.nil (hK3 _ _ ?_);clear hK3;refine CW.block ?_;refine CW.loop (X:=Nat) (fun x=>[(0,.pointer (some ⟨g,0,none⟩)),(3,.pointer (some ⟨g3,0,none⟩)),(5,.int .i64 (x:Int))]) (fun x w0=>x≤rs.length∧(∀(j:Nat) (y:El),j<x→(ay rs)[j]? =some y→y.name≠r)∧Ext w1 w0) (fun x=>rs.length-x) 0 Fr.ok ⟨Nat.zero_le _,(fun j y h=>by omega),aE.refl⟩ ?_;intro x w2 hl2;obtain⟨hxm,hno,hL⟩:=hl2;have hE:=hE.ae hL;have hB3:=hB3.ext hL;have hR2:=hR.ext hE;refine CW.seq fun K4 hK4=>CW.sr fun K5 hK5=>WL.m rfl<|WL.m rfl<|WL.v (Y.nilCheck rfl)<|WL.v (Y.fieldAddr aI rfl)<|WL.v (Y.ah underlying111 rfl hR2.bY.mem.aP rfl)<|WL.v (Y.aq underlying111 rfl)<|WL.v (Y.lss rfl rfl)<|WL.nil (hK5 _ _ ?_);clear hK5;refine bp ?_ ?_<;>intro ht6
 ·refine CW.skip ?_;refine hK4 _ _ ?_;clear hK4;refine CW.seq fun K7 hK7=>?_;refine CW.block<|CW.seq fun K8 hK8=>?_;obtain⟨y,hy⟩:∃y,rs[x]? =some y:=⟨_,List.getElem?_eq_getElem ai⟩;obtain⟨a,ha,hmy⟩:=hat x y hy;obtain rfl:=ha;have hR4:=hR2;refine CW.quiet (fun wq=>Ext w2 wq) aG aG aE.drew<|QL.m rfl<|QL.v (fun wq hq=>Y.nilCheck rfl)<|QL.v (fun wq hq=>Y.fieldAddr aI rfl)<|QL.v (fun wq hq=>Y.ah underlying111 rfl ((hR4.ext hq).bY.mem.aP) rfl)<|QL.m rfl<|QL.v (fun wq hq=>Y.af underlying111 rfl rfl aV ai)<|QL.v (fun wq hq=>Y.fieldAddr cI rfl)<|QL.v (fun wq hq=>Y.load underlying62 rfl (((hmy.ext hE).ext hq).df) (aT _) rfl)<|QL.v (fun wq hq=>Y.load underlying62 rfl (hB3.ext hq).mem (aT _) rfl)<|QL.v (fun wq hq=>Y.oI rfl rfl)<|QL.nil fun w3 hx3=>?_;have hz3:=hx3.size;have hE:=hE.ae hx3;refine hK8 _ _ ?_;clear hK8;refine bp ?_ ?_<;>intro ht9
  ·refine CW.sr fun K10 hK10=>WL.m rfl<|WL.a rfl<|WL.nil (hK10 _ _ ?_);clear hK10;refine CW.ret ⟨_,rfl,?_⟩;exact⟨by rw [zw (hxe _ _ hy) (by assumption) hno],hE⟩
  refine CW.skip ?_;refine hK7 _ _ ?_;clear hK7;refine CW.region<|WL.m rfl<|WL.v (Y.add rfl rfl bB)<|WL.a rfl<|WL.nil ?_;exact⟨x+1,(by show rs.length-(x+1)<rs.length-x;omega),Fr.ok,(by show x+1≤rs.length;omega),(fun j z hj hz=>by
   by_cases e:j=x
   ·subst e;rw [hxe _ _ hy]at hz;cases hz;assumption
   ·exact hno j z ai hz),hL.ae hx3⟩
 refine CW.exit ?_;refine hK2 _ _ ?_;clear hK2;refine CW.sr fun K11 hK11=>WL.a rfl<|WL.nil (hK11 _ _ ?_);clear hK11;refine CW.ret ⟨_,rfl,?_⟩;exact⟨by rw [yP (fun j z hj hz=>hno j z ai hz)],hE⟩
theorem yT(g:Nat)(ad:List aD)(rs:List Rn)(av ev_:Value)(p q:Nat)(w:World)(hR:ey w g ad rs av ev_)(hn:rs.length≤400001)(hp:p<rs.length)(hq:q<rs.length):Calls prog 91 #[.pointer (some ⟨g,0,none⟩),.int .i64 (p:Int),.int .i64 (q:Int)] w (cB fun v w'=>v= .bool (cC (nm (ay rs) p) (nm (ay rs) q))∧Ext w w'):=by
 obtain⟨A,m,c,rfl⟩:=hR.es.lens;have hsl:=hR.sl;have hel:(ay rs).length=rs.length:=List.length_map _;have hmm:rs.length=m∧m≤c∧c≤maxLen:=by
  obtain⟨A',m',c',e,h1,h2,h3,_⟩:=hsl;injection e with e1 e2 e3
  exact⟨by omega,by omega,by omega⟩
 unfold maxLen at hmm;have hat:∀i x,rs[i]? =some x→∃a,A=some a∧Mem w (a.add (i*38)) (rC x):=fun i x hx=>hsl.get hx;have hxe:∀(i:Nat) (x:Rn),rs[i]? =some x→(ay rs)[i]? =some x.el:=fun i x hx=>by rw [List.getElem?_map,hx];rfl
 obtain⟨x,hx⟩:∃x,rs[p]? =some x:=⟨_,List.getElem?_eq_getElem ai⟩;obtain⟨a,ha,hmx⟩:=hat p x hx;obtain rfl:=ha;obtain⟨y,hy⟩:∃y,rs[q]? =some y:=⟨_,List.getElem?_eq_getElem ai⟩;obtain⟨a2,ha2,hmy⟩:=hat q y hy;obtain rfl:a=a2:=Option.some.inj ha2;have e1:=fc (hxe _ _ hx);have e2:=fc (hxe _ _ hy);rw [e1,e2];refine ar 44 [6] [(0,.pointer (some ⟨g,0,none⟩)),(1,.int .i64 (p:Int)),(2,.int .i64 (q:Int))] func91 rfl rfl rfl aL iI ?_;have hE:Ext w w:=aE.refl;refine CW.sr fun K1 hK1=>WL.a rfl<|WL.nil (hK1 _ _ ?_);clear hK1;refine CW.sr fun K2 hK2=>WL.m rfl<|WL.v (Y.nilCheck rfl)<|WL.v (Y.fieldAddr aI rfl)<|WL.v (Y.ah underlying111 rfl hR.bY.mem.aP rfl)<|WL.m rfl<|WL.v (Y.af underlying111 rfl rfl aV ai)<|WL.v (Y.fieldAddr cI rfl)<|WL.v (Y.load underlying62 rfl hmx.df (aT _) rfl) ?_;refine jQ rfl aL aw fun g7 w1 hx1 hg7 hB7=>?_;have hlt7:=hB7.lt;have hz1:=hx1.size;have hE:=hE.ae hx1;refine WL.nil (hK2 _ _ ?_);clear hK2;refine CW.sr fun K3 hK3=>WL.m rfl<|WL.v (Y.nilCheck rfl)<|WL.v (Y.fieldAddr aI rfl)<|WL.v (Y.ah underlying111 rfl ((hR.ext hE).bY.mem.aP) rfl)<|WL.m rfl<|WL.v (Y.af underlying111 rfl rfl aV ai)<|WL.v (Y.fieldAddr cI rfl)<|WL.v (Y.load underlying62 rfl ((hmy.ext hE).df) (aT _) rfl) ?_;refine jQ rfl aL aw fun g8 w2 hx2 hg8 hB8=>?_;have hlt8:=hB8.lt;have hz2:=hx2.size;have hE:=hE.ae hx2;have hB7:=hB7.ext hx2;refine WL.nil (hK3 _ _ ?_);clear hK3;refine CW.sr fun K4 hK4=>WL.v (Y.fieldAddr cw rfl)<|WL.v (Y.load underlying42 rfl hB7.mem.mr (aj _) rfl)<|WL.v (Y.fieldAddr cw rfl)<|WL.v (Y.load underlying42 rfl hB8.mem.mr (aj _) rfl)<|WL.call func89 rfl rfl rfl (ni _ _ _) aL ?_;rintro v w3 ⟨rfl,hx3⟩;have hz3:=hx3.size;have hE:=hE.ae hx3;have hB7:=hB7.ext hx3;have hB8:=hB8.ext hx3;refine WL.m rfl ?_;refine dO ?_ ?_<;>intro hg30
 ·refine WL.o rfl rfl<|WL.o rfl rfl<|WL.o rfl rfl<|WL.o rfl rfl<|WL.o rfl rfl<|WL.o rfl rfl<|WL.bD rfl rfl aw<|WL.bD rfl rfl aw<|WL.bD rfl rfl aw<|WL.bD rfl rfl aw<|WL.bD rfl rfl aw<|WL.o rfl rfl<|WL.v (Y.pick rfl rfl) ?_;refine WL.a rfl<|WL.nil (hK4 _ _ ?_);clear hK4;refine CW.ret ⟨_,rfl,?_⟩;exact⟨by simp_all [cC],hE⟩
 ·refine WL.g rfl rfl (Y.fieldAddr cw rfl)<|WL.g rfl rfl (Y.load underlying42 rfl hB7.mem.mr (aj _) rfl)<|WL.g rfl rfl (Y.fieldAddr cw rfl)<|WL.g rfl rfl (Y.load underlying42 rfl hB8.mem.mr (aj _) rfl)<|WL.g rfl rfl (Y.dD rfl rfl)<|WL.g rfl rfl (Y.move rfl) ?_;refine dO ?_ ?_<;>intro hg36
  ·refine WL.g rfl rfl (Y.fieldAddr bF rfl)<|WL.g rfl rfl (Y.ah underlying3 rfl hB7.mem.iR rfl)<|WL.g rfl rfl (Y.fieldAddr bF rfl)<|WL.g rfl rfl (Y.ah underlying3 rfl hB8.mem.iR rfl)<|WL.g rfl rfl (Y.lss rfl rfl)<|WL.g rfl rfl (Y.pick rfl rfl)<|WL.v (Y.pick rfl rfl)<|WL.a rfl<|WL.nil (hK4 _ _ ?_);clear hK4;refine CW.ret ⟨_,rfl,?_⟩;exact⟨by simp_all [cC],hE⟩
  ·refine WL.o rfl rfl<|WL.o rfl rfl<|WL.o rfl rfl<|WL.o rfl rfl<|WL.o rfl rfl<|WL.g rfl rfl (Y.pick rfl rfl)<|WL.v (Y.pick rfl rfl)<|WL.a rfl<|WL.nil (hK4 _ _ ?_);clear hK4;refine CW.ret ⟨_,rfl,?_⟩;exact⟨by simp_all [cC],hE⟩
set_option maxHeartbeats 1000000 in
theorem xo(g:Nat)(ad:List aD)(rs:List Rn)(av ev_:Value)(u:Value)(l:List Nat)(p:Nat)(w:World)(hR:ey w g ad rs av ev_)(hn:rs.length≤400001)(hu:Own w tH 1 u (fe l))(hll:l.length≤400001)(hp:p<rs.length)(hlr:∀q∈l,q<rs.length):Calls prog 68 #[.pointer (some ⟨g,0,none⟩),u,.int .i64 (p:Int)] w (cB fun v w'=>Own w' tH 1 v (fe (kz (fun q=>cC (nm (ay rs) p) (nm (ay rs) q)) p l))∧(∀k,v.ownBlock=some k→w.heap.size≤k)∧Ext w w'):=by
 obtain⟨f,hf⟩:∃f,f=fun q=>cC (nm (ay rs) p) (nm (ay rs) q):=⟨_,rfl⟩;rw [←hf];have hfq:∀q,f q=cC (nm (ay rs) p) (nm (ay rs) q):=fun q=>by rw [hf]
 obtain⟨A,m,c,rfl⟩:=hu.lens;obtain⟨hlm,hlg⟩:=ik hu;have hcc:=(hu.mem A m c rfl).2.2.2;unfold maxLen at hcc;refine ar 45 [6] [(0,.pointer (some ⟨g,0,none⟩)),(1,.slice A m c),(2,.int .i64 (p:Int))] func68 rfl rfl rfl aL iI ?_;have hE:Ext w w:=aE.refl;refine CW.sr fun K1 hK1=>WL.a rfl<|WL.nil (hK1 _ _ ?_);clear hK1;refine CW.sr fun K2 hK2=>WL.a rfl<|WL.nil (hK2 _ _ ?_);clear hK2;refine CW.sr fun K3 hK3=>WL.a rfl<|WL.nil (hK3 _ _ ?_);clear hK3;refine CW.seq fun K4 hK4=>CW.sr fun K5 hK5=>WL.a rfl<|WL.nil (hK5 _ _ ?_);clear hK5;refine CW.block ?_;refine CW.loop (X:=Nat×Value) (fun x=>[(0,.pointer (some ⟨g,0,none⟩)),(1,.slice A m c),(2,.int .i64 (p:Int)),(7,x.2),(8,.bool ((l.take x.1).foldl (dc f p) ([],false)).2),(9,.int .i64 (x.1:Int))]) (fun x w0=>x.1≤m∧Own w0 tH 1 x.2 (fe ((l.take x.1).foldl (dc f p) ([],false)).1)∧(∀b,x.2.ownBlock=some b→w.heap.size≤b)∧Ext w w0) (fun x=>m-x.1) (0,.slice none 0 0) Fr.ok ⟨Nat.zero_le _,Own.nil,(fun b hb=>by simp [Value.ownBlock]at hb),aE.refl⟩ ?_;intro x w1 hl1;obtain⟨k,u1⟩:=x;dsimp only at hl1⊢;obtain⟨hkm,hO,hfr,hE⟩:=hl1;refine CW.seq fun K6 hK6=>CW.sr fun K7 hK7=>WL.m rfl<|WL.m rfl<|WL.v (Y.aq underlying23 rfl)<|WL.v (Y.lss rfl rfl)<|WL.nil (hK7 _ _ ?_);clear hK7;refine bp ?_ ?_<;>intro ht8
 ·refine CW.skip ?_;refine hK6 _ _ ?_;clear hK6;refine CW.seq fun K9 hK9=>?_;refine CW.block ?_;obtain⟨q,hq⟩:∃q,l[k]? =some q:=⟨_,List.getElem?_eq_getElem ai⟩;obtain⟨a,rfl,hma⟩:=hlg k q hq;have hpl:=p5 (f:=f) (n:=p) (l.take k) ([],false);rw [List.length_take]at hpl;simp only [List.length_nil]at hpl;have hst:=yg (g:=dc f p) (b:=([],false)) hq;refine CW.bK (X:=Value) (fun u2=>[(0,.pointer (some ⟨g,0,none⟩)),(1,.slice (some a) m c),(2,.int .i64 (p:Int)),(7,u2),(8,.bool (((l.take k).foldl (dc f p) ([],false)).2||f q)),(9,.int .i64 (k:Int))]) (fun u2 w0=>Own w0 tH 1 u2 (fe (if((l.take k).foldl (dc f p) ([],false)).2=false∧f q=true then((l.take k).foldl (dc f p) ([],false)).1++[p]else((l.take k).foldl (dc f p) ([],false)).1))∧(∀b,u2.ownBlock=some b→w.heap.size≤b)∧Ext w w0) ?_ ?_
  ·refine CW.cP 26 (((l.take k).foldl (dc f p) ([],false)).2=false∧f q=true) ?_ ?_
   ·refine CW.region<|WL.m rfl<|WL.v (Y.not rfl)<|WL.m rfl ?_;refine dO ?_ ?_<;>intro hg18
    ·refine WL.g rfl rfl (Y.move rfl)<|WL.g rfl rfl (Y.move rfl)<|WL.g rfl rfl (Y.move rfl)<|WL.g rfl rfl (Y.move rfl)<|WL.g rfl rfl (Y.af underlying23 rfl rfl dq ai)<|WL.g rfl rfl (Y.ah underlying3 rfl ((hma.ext hE).cell0) rfl)<|WL.lz rfl rfl func91 rfl rfl rfl (yT g ad rs av ev_ p q _ (hR.ext hE) hn hp (hlr q (List.mem_of_getElem? hq))) aw ?_;rintro v w2 ⟨rfl,hx2⟩;have hz2:=hx2.size;have hE:=hE.ae hx2;refine WL.v (Y.pick rfl rfl)<|WL.nil ⟨⟨_,rfl,?_⟩,hx2,Fr.cT⟩;exact aH
    ·refine WL.o rfl rfl<|WL.o rfl rfl<|WL.o rfl rfl<|WL.o rfl rfl<|WL.o rfl rfl<|WL.o rfl rfl<|WL.o rfl rfl<|WL.v (Y.pick rfl rfl)<|WL.nil ⟨⟨_,rfl,?_⟩,aE.refl,Fr.cT⟩;exact aH
   intro w3 hx3;have hz3:=hx3.size;have hE:=hE.ae hx3;refine bp ?_ ?_<;>intro ht11
   ·refine CW.sr fun K12 hK12=>WL.m rfl<|WL.m rfl<|WL.st (St.buildSlice rfl (oY _)) aw fun v29 w4 hR4=>?_;obtain⟨g29,rfl,hg29,hB29,hx4⟩:=hR4;have hz4:=hx4.size;have hO3:=(hO.ext hx3).ext hx4;refine WL.st (St.append (m:=1) (news:=fe [p]) UI UI qv rfl rfl hO3 (Fw.Src.one hB29 rfl) mz (by rw [gV];omega)) aw fun v30 w5 hR5=>?_;obtain⟨hO5,hc5,hf5⟩:=hR5;have hz5:=hc5.size;have hE5:Ext w w5:=(hE.ae hx4).step hc5 (fun b hb=>hfr b hb);have hzE:=hE.size;refine WL.a rfl<|WL.nil (hK12 _ _ ?_);clear hK12;refine CW.region<|WL.a rfl<|WL.nil ?_;have hc:((l.take k).foldl (dc f p) ([],false)).2=false∧f q=true:=by assumption
    exact⟨v30,(by rw [hc.2,Bool.or_true];exact Fr.ok),(by rw [if_pos (by assumption),mG];exact hO5),(fun b hb=>by rcases hf5 with e|e;rw [e]at hb;exact hfr b hb;have:=e b hb;omega),hE5⟩
   refine CW.skip ?_;have hc:¬(((l.take k).foldl (dc f p) ([],false)).2=false∧f q=true):=by assumption
   have e8:(((l.take k).foldl (dc f p) ([],false)).2||f q)=((l.take k).foldl (dc f p) ([],false)).2:=by
    cases h2:((l.take k).foldl (dc f p) ([],false)).2<;>cases h3:f q<;>simp_all
   exact⟨u1,(by rw [e8];exact Fr.ok),(by rw [if_neg (by assumption)];exact hO.ext hx3),hfr,hE⟩
  rintro u w6 hj6;obtain⟨hO,hfr,hE⟩:=hj6;have hzE:=hE.size;refine CW.region<|WL.m rfl<|WL.m rfl<|WL.m rfl<|WL.v (Y.af underlying23 rfl rfl dq ai)<|WL.v (Y.ah underlying3 rfl ((hma.ext hE).cell0) rfl)<|WL.st (St.buildSlice rfl (oY _)) aw fun v36 w7 hR7=>?_;obtain⟨g36,rfl,hg36,hB36,hx7⟩:=hR7;have hz7:=hx7.size;refine WL.st (St.append (m:=1) (news:=fe [q]) UI UI qv rfl rfl (hO.ext hx7) (Fw.Src.one hB36 rfl) mz (by rw [gV];split<;>(try rw [List.length_append])<;>(try rw [List.length_singleton])<;>omega)) aw fun v37 w8 hR8=>?_;obtain⟨hO8,hc8,hf8⟩:=hR8;have hz8:=hc8.size;have hE8:Ext w w8:=(hE.ae hx7).step hc8 (fun b hb=>hfr b hb);rw [←mG]at hO8;refine WL.a rfl<|WL.nil (hK9 _ _ ?_);clear hK9;refine CW.region<|WL.m rfl<|WL.v (Y.add rfl rfl bB)<|WL.a rfl<|WL.nil ?_;have hps:(l.take (k+1)).foldl (dc f p) ([],false)=((if((l.take k).foldl (dc f p) ([],false)).2=false∧f q=true then((l.take k).foldl (dc f p) ([],false)).1++[p]else((l.take k).foldl (dc f p) ([],false)).1)++[q],((l.take k).foldl (dc f p) ([],false)).2||f q):=by
   rw [hst,dc];by_cases h1:((l.take k).foldl (dc f p) ([],false)).2=false∧f q=true
   ·rw [if_pos h1,if_pos h1,h1.2];simp
   ·rw [if_neg h1,if_neg h1];congr 1;cases h2:((l.take k).foldl (dc f p) ([],false)).2<;>cases h3:f q<;>simp_all
  exact⟨(k+1,v37),(by show m-(k+1)<m-k;omega),(by rw [hps];exact Fr.ok),(by show k+1≤m;omega),(by rw [hps];exact hO8),(fun b hb=>by rcases hf8 with e|e;rw [e]at hb;exact hfr b hb;have:=e b hb;omega),hE8⟩
 refine CW.exit ?_;refine hK4 _ _ ?_;clear hK4;have hke:l.take k=l:=List.take_of_length_le ai;have hput:=uP (f:=f) (n:=p) l [];rw [hke]at hO;have hpl:=p5 (f:=f) (n:=p) l ([],false);simp only [List.length_nil]at hpl;refine CW.bK (X:=Value) (fun u2=>[(7,u2)]) (fun u2 w0=>Own w0 tH 1 u2 (fe (kz f p l))∧(∀b,u2.ownBlock=some b→w.heap.size≤b)∧Ext w w0) ?_ ?_
 ·refine CW.sr fun K14 hK14=>WL.m rfl<|WL.v (Y.not rfl)<|WL.nil (hK14 _ _ ?_);clear hK14;refine bp ?_ ?_<;>intro ht15
  ·refine CW.region<|WL.m rfl<|WL.m rfl<|WL.st (St.buildSlice rfl (oY _)) aw fun v42 w9 hR9=>?_;obtain⟨g42,rfl,hg42,hB42,hx9⟩:=hR9;have hz9:=hx9.size;refine WL.st (St.append (m:=1) (news:=fe [p]) UI UI qv rfl rfl (hO.ext hx9) (Fw.Src.one hB42 rfl) mz (by rw [gV];omega)) aw fun v43 w10 hR10=>?_;obtain⟨hO10,hc10,hf10⟩:=hR10;have hz10:=hc10.size;have hE10:Ext w w10:=(hE.ae hx9).step hc10 (fun b hb=>hfr b hb);have hzE:=hE.size;refine WL.a rfl<|WL.nil ?_;have hd:(l.foldl (dc f p) ([],false)).2=false:=by rw [←hke];simp_all
   rw [if_neg (by rw [hd];decide)]at hput;exact⟨v43,Fr.ok,(by rw [←mG,hput]at hO10;exact hO10),(fun b hb=>by rcases hf10 with e|e;rw [e]at hb;exact hfr b hb;have:=e b hb;omega),hE10⟩
  refine CW.skip ?_;have hd:(l.foldl (dc f p) ([],false)).2=true:=by rw [←hke];simp_all
  rw [if_pos hd]at hput;exact⟨u1,Fr.ok,(by rw [hput]at hO;exact hO),hfr,hE⟩
 rintro u w11 hj11;obtain⟨hO,hfr,hE⟩:=hj11;refine CW.sr fun K16 hK16=>WL.m rfl<|WL.a rfl<|WL.nil (hK16 _ _ ?_);clear hK16;refine CW.ret ⟨_,rfl,?_⟩;exact⟨hO,hfr,hE⟩
end Go.Proofs.YtmehkigmnpjcjaaGreatDoor
namespace Go.Proofs.YtmehkigmnpjcjaaGreatDoor
open Go.RowKit Go.Fw Go.Fu Go.Pl Go.Proofs.Tryz
theorem BP(e:List El)(r:aF):pq e r<0↔kX e r=none:=by
 unfold pq;cases kX e r<;>simp<;>omega
theorem G1(u:Value)(l:List aD)(k:aD)(w:World)(hl:Sl w aN 32 u l):Calls prog 38 #[u,cU k] w (cB fun r w'=>r= .bool (decide (k∈l))∧Ext w w'):=by
 obtain⟨A,m,c,rfl,hm,hmc,hcm,hux⟩:=id hl;unfold maxLen at hcm;refine ar 18 [4] [(0,.slice A m c),(1,cU k)] func38 rfl rfl rfl aL cz ?_;have hE:Ext w w:=aE.refl;refine CW.sr fun K1 hK1=>WL.box rfl rfl aw fun g3 w1 hx1 hg3 hB3=>?_;have hlt3:=hB3.lt;have hz1:=hx1.size;have hE:=hE.ae hx1;refine WL.a rfl<|WL.nil (hK1 _ _ ?_);clear hK1;refine CW.seq fun K2 hK2=>CW.sr fun K3 hK3=>WL.a rfl<|WL.nil (hK3 _ _ ?_);clear hK3;refine CW.block ?_;refine CW.loop (X:=Nat) (fun x=>[(0,.slice A m c),(3,.pointer (some ⟨g3,0,none⟩)),(5,.int .i64 (x:Int))]) (fun x w0=>x≤l.length∧k∉l.take x∧Ext w w0∧aK w0 g3 42 (aN k)) (fun x=>l.length-x) 0 Fr.ok ⟨Nat.zero_le _,by simp,hE,hB3⟩ ?_;intro x w2 hl2;obtain⟨hx,hno,hE,hB3⟩:=hl2;refine CW.seq fun K4 hK4=>CW.sr fun K5 hK5=>WL.m rfl<|WL.m rfl<|WL.v (Y.aq underlying25 rfl)<|WL.v (Y.lss rfl rfl)<|WL.nil (hK5 _ _ ?_);clear hK5;refine bp ?_ ?_<;>intro ht6
 ·refine CW.skip ?_;refine hK4 _ _ ?_;clear hK4;refine CW.seq fun K7 hK7=>?_;refine CW.block<|CW.seq fun K8 hK8=>?_;obtain⟨d,hd⟩:∃d,l[x]? =some d:=⟨_,List.getElem?_eq_getElem ai⟩;obtain⟨a,rfl,hmd⟩:=(hl.ext hE).get hd;refine CW.quiet (fun wq=>Ext w2 wq) aG aG aE.drew<|QL.m rfl<|QL.m rfl<|QL.v (fun wq hq=>Y.af underlying25 rfl rfl aJ ai)<|QL.v (fun wq hq=>Y.load underlying42 rfl (hmd.ext hq) (aj _) rfl)<|QL.v (fun wq hq=>Y.load underlying42 rfl (hB3.ext hq).mem (aj _) rfl)<|QL.v (fun wq hq=>Y.dD rfl rfl)<|QL.nil fun w3 hx3=>?_;have hz3:=hx3.size;have hE:=hE.ae hx3;have hB3:=hB3.ext hx3;refine hK8 _ _ ?_;clear hK8;refine bp ?_ ?_<;>intro ht9
  ·refine CW.sr fun K10 hK10=>WL.a rfl<|WL.nil (hK10 _ _ ?_);clear hK10;refine CW.ret ⟨_,rfl,?_⟩;have hkl:k∈l:=by
    have h:d=k:=by assumption
    rw [←h];exact List.mem_of_getElem? hd
   exact⟨by rw [decide_eq_true hkl],hE⟩
  refine CW.skip ?_;refine hK7 _ _ ?_;clear hK7;refine CW.region<|WL.m rfl<|WL.v (Y.add rfl rfl bB)<|WL.a rfl<|WL.nil ?_;refine⟨x+1,by show l.length-(x+1)<l.length-x;omega,Fr.ok,by show x+1≤l.length;omega,?_,hE,hB3⟩;show k∉l.take (x+1);rw [take_succ hd,List.mem_append,List.mem_singleton];have hne:¬d=k:=by assumption
  rintro(h|h)
  ·exact hno h
  ·exact hne h.symm
 refine CW.exit ?_;refine hK2 _ _ ?_;clear hK2;refine CW.sr fun K11 hK11=>WL.a rfl<|WL.nil (hK11 _ _ ?_);clear hK11;refine CW.ret ⟨_,rfl,?_⟩;exact⟨by rw [decide_eq_false (by have h1:l.take x=l:=List.take_of_length_le ai;rw [←h1];exact hno)],hE⟩
theorem zX(g:Nat)(ad:List aD)(rs:List Rn)(av ev_:Value)(id:aD)(u:Value)(ops:List ct)(w:World)(hR:ey w g ad rs av ev_)(hn:rs.length≤400001)(hl:Sl w eM 37 u ops):Calls prog 66 #[.pointer (some ⟨g,0,none⟩),cU id,u] w (cB fun v w'=>v= .int .i64 (di ⟨ad,ay rs⟩ id ops)∧Ext w w'):=by
 obtain⟨A,m,c,rfl,hm,hmc,hcm,_⟩:=_root_.id hl;unfold maxLen at hcm;have hlo2:=hl;have hRo:=hR;have hel:(ay rs).length=rs.length:=List.length_map _;obtain⟨EA,em,ec,rfl⟩:=hR.es.lens;have hem:rs.length=em:=by
  obtain⟨A',m',c',e,h1,_⟩:=hR.sl;injection e with e1 e2 e3
  omega
 have hik:∀k,fF (ops.take k)≤k:=fun k=>by
  have h1:=List.countP_le_length (p:=fun x:ct=>decide (x.kind=1)) (l:=ops.take k);rw [List.length_take]at h1;unfold fF;omega
 have hfn:=BP (ay rs);refine ar 75 [6] [(0,.pointer (some ⟨g,0,none⟩)),(1,cU id),(2,.slice A m c)] func66 rfl rfl rfl aL iI ?_;have hE:Ext w w:=aE.refl;refine CW.sr fun K1 hK1=>WL.box rfl rfl aw fun g4 w1 hx1 hg4 hB4=>?_;have hlt4:=hB4.lt;have hz1:=hx1.size;have hE:=hE.ae hx1;refine WL.a rfl<|WL.nil (hK1 _ _ ?_);clear hK1;refine CW.seq fun K2 hK2=>CW.seq fun K3 hK3=>CW.quiet (fun wq=>Ext w1 wq) aG aG aE.drew<|QL.m rfl<|QL.v (fun wq hq=>Y.nilCheck rfl)<|QL.v (fun wq hq=>Y.fieldAddr dQ rfl)<|QL.v (fun wq hq=>Y.ah underlying25 rfl (((hR.ext hE).ext hq).bY.mem.gF) rfl)<|QL.v (fun wq hq=>Y.load underlying42 rfl (hB4.ext hq).mem (aj _) rfl)<|QL.call func38 rfl rfl rfl (fun wq hq=>cA (G1 _ _ id _ (((hR.ext hE).ads.ext hq).sl ag aw)) hq) aL<|QL.nil fun w2 hx2=>?_;have hz2:=hx2.size;have hE:=hE.ae hx2;have hB4:=hB4.ext hx2;refine hK3 _ _ ?_;clear hK3;refine bp ?_ ?_<;>intro ht4
 ·refine CW.sr fun K5 hK5=>WL.a rfl<|WL.nil (hK5 _ _ ?_);clear hK5;refine CW.ret ⟨_,rfl,?_⟩;exact⟨by rw [di,if_pos (by simp_all)],hE⟩
 refine CW.skip ?_;refine hK2 _ _ ?_;clear hK2;refine CW.sr fun K6 hK6=>WL.a rfl<|WL.nil (hK6 _ _ ?_);clear hK6;refine CW.seq fun K7 hK7=>CW.sr fun K8 hK8=>WL.a rfl<|WL.nil (hK8 _ _ ?_);clear hK8;refine CW.block ?_;refine CW.loop (X:=Nat) (fun x=>[(0,.pointer (some ⟨g,0,none⟩)),(2,.slice A m c),(4,.pointer (some ⟨g4,0,none⟩)),(7,.int .i64 (fF (ops.take x):Int)),(8,.int .i64 (x:Int))]) (fun x w0=>x≤m∧Ext w w0∧aK w0 g4 42 (aN id)) (fun x=>m-x) 0 Fr.ok ⟨Nat.zero_le _,hE,hB4⟩ ?_;intro x w3 hl3;obtain⟨hxm,hE,hB4⟩:=hl3;have hR:=hRo.ext hE;have hl:=hlo2.ext hE;have hzl:=hE.size;refine CW.seq fun K9 hK9=>CW.sr fun K10 hK10=>WL.m rfl<|WL.m rfl<|WL.v (Y.aq underlying27 rfl)<|WL.v (Y.lss rfl rfl)<|WL.nil (hK10 _ _ ?_);clear hK10;refine bp ?_ ?_<;>intro ht11
 ·refine CW.skip ?_;refine hK9 _ _ ?_;clear hK9;obtain⟨o,ho⟩:∃o,ops[x]? =some o:=⟨_,List.getElem?_eq_getElem ai⟩;obtain⟨aa,rfl,hma⟩:=hlo2.get ho;have hstep:=nk (ops:=ops) ho;have hix:=hik x;refine CW.bK (X:=Unit) (fun _=>[(0,.pointer (some ⟨g,0,none⟩)),(2,.slice (some aa) m c),(4,.pointer (some ⟨g4,0,none⟩)),(7,.int .i64 (fF (ops.take (x+1)):Int)),(8,.int .i64 (x:Int))]) (fun _ w0=>Ext w w0∧aK w0 g4 42 (aN id)) ?_ ?_
  ·refine CW.block<|CW.sr fun K13 hK13=>WL.m rfl<|WL.m rfl<|WL.v (Y.af underlying27 rfl rfl bQ ai)<|WL.v (Y.fieldAddr dg rfl)<|WL.v (Y.ah underlying3 rfl ((hma.ext hE).yr) rfl)<|WL.v (Y.eql rfl rfl)<|WL.nil (hK13 _ _ ?_);clear hK13;refine bp ?_ ?_<;>intro ht14
   ·refine CW.region<|WL.m rfl<|WL.v (Y.add rfl rfl bB)<|WL.a rfl<|WL.nil ?_;refine⟨(),?_,hE,hB4⟩;rw [hstep,if_pos (by assumption)];exact Fr.ok
   refine CW.skip ?_;refine⟨(),?_,hE,hB4⟩;rw [hstep,if_neg (by assumption)];exact Fr.ok
  rintro u w4 hj4;obtain⟨hE,hB4⟩:=hj4;have hR:=hRo.ext hE;have hl:=hlo2.ext hE;refine CW.region<|WL.m rfl<|WL.v (Y.add rfl rfl bB)<|WL.a rfl<|WL.nil ?_;exact⟨x+1,(by show m-(x+1)<m-x;omega),Fr.ok,(by show x+1≤m;omega),hE,hB4⟩
 refine CW.exit ?_;refine hK7 _ _ ?_;clear hK7;refine CW.seq fun K15 hK15=>?_;have htk:ops.take x=ops:=List.take_of_length_le ai;have hins:=hik x;rw [htk]at hins⊢;have hnid:id∉ad:=by simp_all
 refine CW.bS 44 (2000<m∨400000<fF ops+(rs.length-1)) ?_ ?_
 ·refine CW.region<|WL.m rfl<|WL.v (Y.aq underlying27 rfl)<|WL.v (Y.gtr rfl rfl)<|WL.m rfl ?_;refine dO ?_ ?_<;>intro hg34
  ·refine WL.o rfl rfl<|WL.o rfl rfl<|WL.o rfl rfl<|WL.o rfl rfl<|WL.o rfl rfl<|WL.o rfl rfl<|WL.o rfl rfl<|WL.o rfl rfl<|WL.o rfl rfl<|WL.v (Y.pick rfl rfl)<|WL.nil ⟨⟨_,rfl,?_⟩,rfl,Fr.cT⟩;exact aH
  ·refine WL.g rfl rfl (Y.move rfl)<|WL.g rfl rfl (Y.move rfl)<|WL.g rfl rfl (Y.nilCheck rfl)<|WL.g rfl rfl (Y.fieldAddr aI rfl)<|WL.g rfl rfl (Y.ah underlying111 rfl hR.bY.mem.aP rfl)<|WL.g rfl rfl (Y.aq underlying111 rfl)<|WL.g rfl rfl (Y.add rfl rfl bB)<|WL.g rfl rfl (Y.sub rfl rfl bB)<|WL.g rfl rfl (Y.gtr rfl rfl)<|WL.v (Y.pick rfl rfl)<|WL.nil ⟨⟨_,rfl,?_⟩,rfl,Fr.cT⟩;exact aH
 refine bp ?_ ?_<;>intro ht16
 ·refine CW.sr fun K17 hK17=>WL.a rfl<|WL.nil (hK17 _ _ ?_);clear hK17;refine CW.ret ⟨_,rfl,?_⟩;exact⟨by rw [di,if_neg hnid,if_pos (by rw [hm,hel];assumption)],hE⟩
 refine CW.skip ?_;refine hK15 _ _ ?_;clear hK15;refine CW.seq fun K18 hK18=>CW.sr fun K19 hK19=>WL.a rfl<|WL.nil (hK19 _ _ ?_);clear hK19;refine CW.block ?_;refine CW.loop (X:=Nat) (fun x=>[(0,.pointer (some ⟨g,0,none⟩)),(2,.slice A m c),(4,.pointer (some ⟨g4,0,none⟩)),(9,.int .i64 (x:Int))]) (fun x w0=>x≤m∧cY (ay rs) ops x=0∧Ext w w0∧aK w0 g4 42 (aN id)) (fun x=>m-x) 0 Fr.ok ⟨Nat.zero_le _,rfl,hE,hB4⟩ ?_;intro x w5 hl5;obtain⟨hxm,hwn,hE,hB4⟩:=hl5;have hl:=hlo2.ext hE;have hzl:=hE.size;have hn4:¬(2000<ops.length∨400000<fF ops+((ay rs).length-1)):=by rw [hm,hel];assumption
 refine CW.seq fun K20 hK20=>CW.sr fun K21 hK21=>WL.m rfl<|WL.m rfl<|WL.v (Y.aq underlying27 rfl)<|WL.v (Y.lss rfl rfl)<|WL.nil (hK21 _ _ ?_);clear hK21;refine bp ?_ ?_<;>intro ht22
 ·refine CW.skip ?_;refine hK20 _ _ ?_;clear hK20;refine CW.seq fun K23 hK23=>?_;refine CW.block<|CW.seq fun K24 hK24=>?_;obtain⟨o,ho⟩:∃o,ops[x]? =some o:=⟨_,List.getElem?_eq_getElem ai⟩;obtain⟨aa,rfl,hma⟩:=hlo2.get ho;refine CW.region<|WL.m rfl<|WL.m rfl<|WL.v (Y.add rfl rfl bB)<|WL.call func90 rfl rfl rfl (sn _ ops ((x:Int)+1) _ hl bB) aL ?_;rintro v w6 ⟨rfl,hx6⟩;have hz6:=hx6.size;have hE:=hE.ae hx6;have hB4:=hB4.ext hx6;refine WL.a rfl<|WL.nil (hK24 _ _ ?_);clear hK24;refine CW.seq fun K25 hK25=>CW.sr fun K26 hK26=>WL.m rfl<|WL.v (Y.neq rfl rfl)<|WL.nil (hK26 _ _ ?_);clear hK26;refine bp ?_ ?_<;>intro ht27
  ·refine CW.sr fun K28 hK28=>WL.m rfl<|WL.a rfl<|WL.nil (hK28 _ _ ?_);clear hK28;refine CW.ret ⟨_,rfl,?_⟩;exact⟨by rw [di,if_neg hnid,if_neg hn4,lS ho hwn (by rw [dB,if_pos (by assumption)];assumption),dB,if_pos (by assumption)],hE⟩
  refine CW.skip ?_;refine hK25 _ _ ?_;clear hK25;refine CW.cP 74 (bj o.at_=2∧kX (ay rs) o.at_=none) ?_ ?_
  ·refine CW.region<|WL.m rfl<|WL.m rfl<|WL.v (Y.af underlying27 rfl rfl bQ ai)<|WL.v (Y.fieldAddr bE rfl)<|WL.v (Y.load underlying62 rfl ((hma.ext hE).oo) (aT _) rfl)<|WL.call func84 rfl rfl rfl (oO _ _) aL ?_;rintro v w7 ⟨rfl,hx7⟩;have hz7:=hx7.size;have hE:=hE.ae hx7;have hB4:=hB4.ext hx7;refine WL.v (Y.eql rfl rfl)<|WL.m rfl ?_;refine dO ?_ ?_<;>intro hg65
   ·refine WL.g rfl rfl (Y.move rfl)<|WL.g rfl rfl (Y.move rfl)<|WL.g rfl rfl (Y.move rfl)<|WL.g rfl rfl (Y.af underlying27 rfl rfl bQ ai)<|WL.g rfl rfl (Y.fieldAddr bE rfl)<|WL.g rfl rfl (Y.load underlying62 rfl ((hma.ext hE).oo) (aT _) rfl)<|WL.lz rfl rfl func67 rfl rfl rfl (vh g ad rs av _ o.at_ _ (hRo.ext hE) hn) aw ?_;rintro v w8 ⟨rfl,hx8⟩;have hz8:=hx8.size;have hE:=hE.ae hx8;have hB4:=hB4.ext hx8;refine WL.g rfl rfl (Y.lss rfl rfl)<|WL.v (Y.pick rfl rfl)<|WL.nil ⟨⟨_,rfl,?_⟩,(hx7.ae hx8),Fr.cT⟩;exact aH
   ·refine WL.o rfl rfl<|WL.o rfl rfl<|WL.o rfl rfl<|WL.o rfl rfl<|WL.o rfl rfl<|WL.o rfl rfl<|WL.o rfl rfl<|WL.o rfl rfl<|WL.v (Y.pick rfl rfl)<|WL.nil ⟨⟨_,rfl,?_⟩,hx7,Fr.cT⟩;exact aH
  intro w9 hx9;have hz9:=hx9.size;have hE:=hE.ae hx9;have hB4:=hB4.ext hx9;refine bp ?_ ?_<;>intro ht29
  ·refine CW.sr fun K30 hK30=>WL.a rfl<|WL.nil (hK30 _ _ ?_);clear hK30;refine CW.ret ⟨_,rfl,?_⟩;have hwa:dB (ay rs) ops x o=5:=by rw [dB,if_neg (by assumption),if_pos (by assumption)]
   exact⟨by rw [di,if_neg hnid,if_neg hn4,lS ho hwn (by rw [hwa];decide),hwa],hE⟩
  refine CW.skip ?_;refine hK23 _ _ ?_;clear hK23;refine CW.region<|WL.m rfl<|WL.v (Y.add rfl rfl bB)<|WL.a rfl<|WL.nil ?_;exact⟨x+1,(by show m-(x+1)<m-x;omega),Fr.ok,(by show x+1≤m;omega),(by rw [lG ho hwn,dB,if_neg (by assumption),if_neg (by assumption)]),hE,hB4⟩
 refine CW.exit ?_;refine hK18 _ _ ?_;clear hK18;refine CW.sr fun K31 hK31=>WL.a rfl<|WL.nil (hK31 _ _ ?_);clear hK31;refine CW.ret ⟨_,rfl,?_⟩;have hxe:x=ops.length:=by omega
 exact⟨by rw [di,if_neg hnid,if_neg hn4,←hxe,hwn],hE⟩
end Go.Proofs.YtmehkigmnpjcjaaGreatDoor
