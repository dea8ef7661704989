/- Parts of a proof: what its last text leans on. No condition. -/
import Derived.Test.YtmehkigmnpjcjaaGreatDoorK30
set_option linter.unusedSimpArgs false
set_option linter.unusedVariables false
namespace Go.Proofs.YtmehkigmnpjcjaaGreatDoor
open Go.RowKit Go.Fw Go.Fu Go.Pl Go.Proofs.Tryz
structure HH where
 lo:Nat
 hi:Nat
def Bi(w1:World)(s:HH)(V:World):Prop:=w1.heap.size≤s.lo∧s.lo≤s.hi∧s.hi≤V.heap.size
def lI(e:List El)(_:HH):List (aF×UInt8):=(bf e).map fun q=>(nm e q,gA e q)
def GN(x:aF×UInt8):List Value:=[dE x.1,bc x.2]
def DP(s:HH)(_:Nat)(k:Nat):Prop:=s.lo≤k∧k<s.hi
def II(ns:List Nn)(e:List El)(V:World):Prop:=∀q∈bf e,∃gn lv rv,aK V (fh ns q) TN (bu ⟨nm e q,gA e q,gn,[],[]⟩ lv rv)
theorem cH.I4{w:World}{g rb ra:Nat}{ad:List aD}{ns:List Nn}(h:cH w g rb ra ad ns)(hG:Fu.Good (Fw.aR ns)):II ns (Fw.aR ns) w:=fun q hq=>by
 have hel:(Fw.aR ns).length=ns.length:=List.length_map _;have hl:=jI hG.down hq;obtain⟨z,hz⟩:∃z,ns[q]? =some z:=⟨_,List.getElem?_eq_getElem ai⟩;have hze:(Fw.aR ns)[q]? =some z.el:=by rw [List.getElem?_map,hz];rfl
 exact⟨z.el.gone,z.lv,z.rv,by rw [fH hz,fc hze,lE hze];exact h.node q z hz⟩
theorem D4:eP prog 62 34 48:=by
 have h:(prog.info? 62).map (fun i=>(i.size,i.bytes,i.zero))=some (34,48,some (.agg (aX aF.zero).toArray)):=by kernel_rfl
 obtain⟨i,hi,h⟩:=Option.map_eq_some_iff.1 h;injection h with h1 h2
 injection h2 with h2 h3
 exact⟨i,_,hi,h3,h1,by show(aX aF.zero).toArray.size=34;simp [ax],h2,by decide,by decide⟩
theorem GR(r:aF)(w:World):(Instr.buildSlice 91 1 [(0,dE r)].toArray).run prog w= .ok (.slice (some ⟨w.heap.size,0,none⟩) 1 1) (w.alloc (.cells (aX r).toArray 62)):=by
 obtain⟨i,z,hi,hz,hk,_⟩:=D4;exact il underlying91 hi hz ai ai rfl (by rw [ax,hk]) w
theorem xx(u:Addr)(w:World):Calls prog 32 #[.pointer (some u)] w (cB fun v w'=>∃b,v= .func (.func 59) #[] #[.pointer (some ⟨b,0,none⟩)]∧w.heap.size≤b∧aK w' b 48 [.pointer (some u)]∧Ext w w'):=by
 refine ar 4 [2] [(0,.pointer (some u))] func32 rfl rfl rfl aL du ?_;have hE:Ext w w:=aE.refl;refine CW.sr fun K1 hK1=>WL.box rfl rfl aw fun g1 w1 hx1 hg1 hB1=>?_;have hlt1:=hB1.lt;have hz1:=hx1.size;have hE:=hE.ae hx1;refine WL.a rfl<|WL.nil (hK1 _ _ ?_);clear hK1;refine CW.sr fun K2 hK2=>WL.v (Y.makeFunc rfl)<|WL.a rfl<|WL.nil (hK2 _ _ ?_);clear hK2;refine CW.ret ⟨_,rfl,?_⟩;exact⟨g1,rfl,hg1,hB1,hE⟩
set_option maxRecDepth 100000 in
set_option maxHeartbeats 1000000 in
theorem uU(g rb ra:Nat)(ad:List aD)(ns:List Nn)(b:Nat)(w_:World)(hT_:cH w_ g rb ra ad ns)(hG:Fu.Good (Fw.aR ns))(hn:ns.length≤400001)(hB_:aK w_ b 48 [.pointer (some ⟨g,0,none⟩)]):Ha prog 59 [.pointer (some ⟨b,0,none⟩)] w_ Bi (lI (Fw.aR ns)) GN (fun _=>False) DP (fun _ _ _=>True) (fun _=>True) (fun _ _ V=>II ns (Fw.aR ns) V):=by
 intro ln w J Jx hx0 hS hJ hJx hJN hR;have hT:=hT_.ext hx0;have hB0:=hB_.ext hx0;have hlv:(bf (Fw.aR ns)).length≤400001:=by
  have h1:=List.countP_le_length (p:=fun x:El=> !x.gone) (l:=Fw.aR ns);rw [hG.jn];rw [List.length_map]at h1;exact Nat.le_trans h1 hn
 refine ar 24 [] [(0,.func (.yield ln) #[] #[]),(1,.pointer (some ⟨b,0,none⟩))] func59 rfl rfl rfl aL cz ?_;have hE:Ext w w:=aE.refl;refine CW.sr fun K1 hK1=>WL.v (Y.ah underlying48 rfl (hB0.ext hE).mem.cell0 rfl)<|WL.call func57 rfl rfl rfl (qs g rb ra ad ns _ (hT.ext hE) hG hn) aL ?_;rintro v6 w1 hR1;obtain⟨hO1,hf1,hx1⟩:=hR1;have hz1:=hx1.size;have hE:=hE.ae hx1;obtain⟨A,m,c,rfl⟩:=hO1.lens;obtain⟨hlm,hlg⟩:=ij hO1;have hlt1:=hO1.lt;have hcc:=(hO1.mem A m c rfl).2.2.2;unfold maxLen at hcc;refine WL.v (Y.aq underlying117 rfl)<|WL.m rfl<|WL.nil (hK1 _ _ ?_);clear hK1;refine CW.block ?_;refine CW.loop (X:=Nat) (fun x=>[(0,.func (.yield ln) #[] #[]),(1,.pointer (some ⟨b,0,none⟩)),(6,.slice A m c),(7,.int .i64 (m:Int)),(8,.int .i64 (x:Int))]) (fun x w0=>x≤m∧J ⟨w.heap.size,w1.heap.size⟩ x w0∧Own w0 TP 1 (.slice A m c) (b9 ((bf (Fw.aR ns)).map (fh ns)))∧w1.heap.size≤w0.heap.size) (fun x=>m-x) 0 Fr.ok ⟨Nat.zero_le _,hS _ _ hE ⟨Nat.le_refl _,hE.size,Nat.le_refl _⟩,hO1,Nat.le_refl _⟩ ?_;intro x w2 hl2;obtain⟨hxm,hj,hO,hz2⟩:=hl2;have hE:Ext w2 w2:=aE.refl;obtain⟨_,hlg2⟩:=ij hO;refine CW.sr fun K2 hK2=>WL.v (Y.lss rfl rfl)<|WL.nil (hK2 _ _ ?_);clear hK2;refine CW.seq fun K3 hK3=>?_;refine bp ?_ ?_<;>intro ht4
 ·refine CW.skip ?_;refine hK3 _ _ ?_;clear hK3;refine CW.seq fun K5 hK5=>?_;refine CW.block<|CW.seq fun K6 hK6=>?_;obtain⟨q,hq⟩:∃q,(bf (Fw.aR ns))[x]? =some q:=⟨_,List.getElem?_eq_getElem ai⟩;obtain⟨a,rfl,hma⟩:=hlg2 x q hq;obtain⟨gn,lv,rv,hbn⟩:=hJN _ _ _ hj q (List.mem_of_getElem? hq);refine CW.region<|WL.v (Y.af underlying117 rfl rfl a7 ai)<|WL.v (Y.ah underlying116 rfl hma.cell0 rfl)<|WL.a rfl<|WL.nil (hK6 _ _ ?_);clear hK6;refine CW.seq fun K7 hK7=>?_;refine CW.Jj 9 aG aG fun w3 hx3=>?_;skip;have hz3:=hx3.size;have hE:=hE.ae hx3;refine HL.val (Y.move rfl) aw<|HL.val (Y.move rfl) aw<|HL.val (Y.nilCheck rfl) aw<|HL.val (Y.fieldAddr cG rfl) aw<|HL.val (Y.load underlying62 rfl ((hbn.ext hE).mem.dJ) (aT _) rfl) aw<|HL.val (Y.move rfl) aw<|HL.val (Y.nilCheck rfl) aw<|HL.val (Y.fieldAddr k7 rfl) aw<|HL.val (Y.ah underlying5 rfl ((hbn.ext hE).mem.ow) rfl) aw<|HL.nil ?_;refine WI.yield rfl rfl (hR ⟨w.heap.size,w1.heap.size⟩ x (nm (Fw.aR ns) q,gA (Fw.aR ns) q) w3 (hJ _ _ _ _ hj hE) (by show((bf (Fw.aR ns)).map _)[x]? =_;rw [List.getElem?_map,hq];rfl) trivial) aw (fun b21 w4 hR4=>?_);refine WI.val (Y.not rfl) aw ?_;refine WI.nil ?_;refine hK7 _ _ ?_;clear hK7;refine bp ?_ ?_<;>intro ht8
  ·refine CW.ret ⟨_,rfl,?_⟩;rcases hR4 with⟨hb,_⟩|⟨_,h,_⟩
   ·simp_all
   ·exact⟨.inr h,trivial⟩
  refine CW.skip ?_;refine hK5 _ _ ?_;clear hK5;refine CW.region<|WL.v (Y.add rfl rfl bB)<|WL.m rfl<|WL.nil ?_;rcases hR4 with⟨_,hj2,hc⟩|⟨hb,_⟩
  ·have hz4:=hc.size;exact⟨x+1,(by show m-(x+1)<m-x;omega),Fr.ok,(by show x+1≤m;omega),hj2,(hO.ext hE).aA hc (fun k hk h=>h ⟨hf1 k hk,hlt1 k hk⟩),by omega⟩
  ·simp_all
 refine CW.exit ?_;refine⟨_,rfl,?_⟩;refine⟨.inl ⟨⟨w.heap.size,w1.heap.size⟩,?_⟩,trivial⟩;have e:(lI (Fw.aR ns) ⟨w.heap.size,w1.heap.size⟩).length=x:=by simp only [lI,List.length_map];omega
 rw [e];exact hj
end Go.Proofs.YtmehkigmnpjcjaaGreatDoor
namespace Go.Fw
open Go.RowKit Go.Fu
theorem St.Es{P:Program}{n:NN}{fr:Fr}{w:World}{ty:TypeId}{t:TypeId}{i:TypeInfo}{z:Value}{cs:List Value}(hi:P.info? t=some i)(hz:i.zero=some z)(hv:z.cells=cs.toArray):St P n fr (.alloc t) ty w (fun v w'=>∃g,v= .pointer (some ⟨g,0,none⟩)∧w.heap.size≤g∧aK w' g t cs∧Ext w w'):=fun a o' ho hty ha=>by
 refine⟨_,w.alloc (.cells cs.toArray t),?_,w.heap.size,rfl,Nat.le_refl _,aK.new w t cs,aE.alloc _⟩;simp [execOp,ho,Instr.alloc,zeroValue,typeInfo,hi,hz,newVar,newRow,hv]
def kF(rs:List aF)(a n:Nat):List ct:=((rs.drop a).take n).map fun r=>⟨2,false,r,0⟩
theorem qy{rs:List aF}{a n:Nat}{r:aF}(h:rs[a+n]? =some r):kF rs a (n+1)=kF rs a n++[⟨2,false,r,0⟩]:=by
 rw [kF,kF,Go.Pl.take_succ (by rw [List.getElem?_drop];exact h),List.map_append];rfl
theorem xD{rs:List aF}{a n:Nat}:(kF rs a n).length≤n:=by rw [kF,List.length_map,List.length_take];omega
def mq(g:aF×Bool×Bool)(n:Nat):Nat→aF
 |0=>g.1
 |k+1=>⟨true,aD.zero,((n+(k+1):Nat):Int)⟩
def sk(g:aF×Bool×Bool):Nat→Bool
 |0=>g.2.1
 |_+1=>false
theorem nX{g:aF×Bool×Bool}{n k:Nat}{s:List UInt8}{b:UInt8}(h:s[k]? =some b):(fG g n s)[k]? =some ⟨1,sk g k,mq g n k,b⟩:=by
 rw [fG,List.getElem?_mapIdx,h];cases k with
 |zero=>rfl
 |succ k=>simp [sk,mq]
end Go.Fw
namespace Go.Proofs.YtmehkigmnpjcjaaGreatDoor
open Go.RowKit Go.Fw Go.Fu Go.Pl Go.Proofs.Tryz
abbrev TM:TypeId:=93
abbrev FG:TypeId:=62
abbrev DY:TypeId:=64
def ia(tv rv:Value)(a k:Nat)(ov:Value):List Value:=[tv,rv,.int .i64 (a:Int),.int .i64 (k:Int),ov]
section
variable {w:World} {a:Addr} {tv rv ov:Value} {x k:Nat} (h:Mem w a (ia tv rv x k ov))
include h
theorem J2:w.cell? (a.add 0)=some tv:=h.cell 0 rfl
theorem wI:w.cell? (a.add 1)=some rv:=h.cell 1 rfl
theorem vP:w.cell? (a.add 2)=some (.int .i64 (x:Int)):=h.cell 2 rfl
theorem JU:w.cell? (a.add 3)=some (.int .i64 (k:Int)):=h.cell 3 rfl
theorem Bx:w.cell? (a.add 4)=some ov:=h.cell 4 rfl
end
theorem tZ:bh prog TM 0 0:=⟨_,_,1,underlying93,rfl,by kernel_rfl,by decide,rfl⟩
theorem k4:bh prog TM 1 1:=⟨_,_,1,underlying93,rfl,by kernel_rfl,by decide,rfl⟩
theorem fD:bh prog TM 2 2:=⟨_,_,1,underlying93,rfl,by kernel_rfl,by decide,rfl⟩
theorem nF:bh prog TM 3 3:=⟨_,_,1,underlying93,rfl,by kernel_rfl,by decide,rfl⟩
theorem dY:bh prog TM 4 4:=⟨_,_,1,underlying93,rfl,by kernel_rfl,by decide,rfl⟩
structure ew(w:World)(g:Nat)(tv rv ov:Value)(a k:Nat)(rs:List aF)(os:List ct):Prop where
 bY:aK w g TM (ia tv rv a k ov)
 refs:Own w FG 34 rv ((rs.map aX).flatten)
 ops:Own w DY 37 ov (jF os)
theorem ew.ext{w w':World}{g:Nat}{tv rv ov:Value}{a k:Nat}{rs:List aF}{os:List ct}(h:ew w g tv rv ov a k rs os)(hx:Ext w w'):ew w' g tv rv ov a k rs os:=⟨h.bY.ext hx,h.refs.ext hx,h.ops.ext hx⟩
theorem ew.aA{w w':World}{g:Nat}{tv rv ov:Value}{a k:Nat}{rs:List aF}{os:List ct}{S:Nat→Prop}(h:ew w g tv rv ov a k rs os)(hx:aE S w w')(hg:¬S g)(hr:∀q,rv.ownBlock=some q→¬S q)(ho:∀q,ov.ownBlock=some q→¬S q):ew w' g tv rv ov a k rs os:=⟨h.bY.aA hx hg,h.refs.aA hx hr,h.ops.aA hx ho⟩
section
variable {w:World} {g:Nat} {tv rv ov:Value} {a k:Nat} {rs:List aF} {os:List ct} (h:ew w g tv rv ov a k rs os)
include h
theorem ew.rg:∀q,rv.ownBlock=some q→q≠g:=fun q hq e=>by
 obtain⟨_,_,h1⟩:=h.refs.kind hq;subst e;exact absurd (bW h1 h.bY) aw
theorem ew.og:∀q,ov.ownBlock=some q→q≠g:=fun q hq e=>by
 obtain⟨_,_,h1⟩:=h.ops.kind hq;subst e;exact absurd (bW h1 h.bY) aw
theorem ew.ro:∀q,rv.ownBlock=some q→ov.ownBlock≠some q:=fun q hq e=>by
 obtain⟨_,_,h1⟩:=h.refs.kind hq;obtain⟨_,_,h2⟩:=h.ops.kind e;exact absurd (bW h1 h2) aw
end
theorem ew.ref{w w':World}{g:Nat}{tv ov:Value}{ra:Addr}{rm rc a k:Nat}{rs:List aF}{os:List ct}(h:ew w g tv (.slice (some ra) rm rc) ov a k rs os)(hc:aE (fun q=>q=g∨ov.ownBlock=some q) w w'){j:Nat}{r:aF}(hj:rs[j]? =some r):Mem w' (ra.add (j*34)) (aX r):=by
 obtain⟨a,e,hm⟩:=((h.refs.aA hc (fun q hq e=>by
  rcases e with e|e
  ·exact h.rg q hq e
  ·exact h.ro q hq e)).sl ax aw).get hj
 injection e with e
 subst e;exact hm
theorem AW(r:aF)(w:World):(Instr.build 64 [(0,Value.int .i64 2),(2,dE r)].toArray).run prog w= .ok (Bz ⟨2,false,r,0⟩) w:=run_build w _ _ _ (by
 have hb:∀parts,prog.built 64 parts=Instr.fill (fun i=>#[(0,1),(1,1),(2,34),(36,1)][i]?) (eM ⟨0,false,aF.zero,0⟩).toArray parts:=fun parts=>by kernel_rfl
 show prog.built _ [(0,Value.int .i64 2),(2,dE r)]=_;rw [hb];have e0:eM ⟨0,false,aF.zero,0⟩=[]++[Value.int .i64 0]++([Value.bool false]++aX aF.zero++[bc 0]):=rfl;rw [e0,bM [] [Value.int .i64 0] ([Value.bool false]++aX aF.zero++[bc 0]) [.int .i64 2] rfl rfl rfl rfl];have e1:[]++[Value.int .i64 2]++([Value.bool false]++aX aF.zero++[bc 0])=[Value.int .i64 2,.bool false]++aX aF.zero++[bc 0]:=by simp
 rw [e1,bM [Value.int .i64 2,.bool false] (aX aF.zero) [bc 0] (aX r) (by rw [ax];rfl) rfl (by rw [ax,ax]) rfl,Instr.fill];simp [eM,bc])
theorem x3(n:Int)(w:World):(Instr.build 62 [(0,Value.bool true),(2,Value.int .i64 n)].toArray).run prog w= .ok (dE ⟨true,aD.zero,n⟩) w:=run_build w _ _ _ (by
 show prog.built _ [(0,Value.bool true),(2,Value.int .i64 n)]=_;rw [uI];have e0:aX aF.zero=[]++[Value.bool false]++(aN aD.zero++[Value.int .i64 0]):=rfl;rw [e0,bM [] [Value.bool false] (aN aD.zero++[Value.int .i64 0]) [Value.bool true] rfl rfl rfl rfl];have e1:[]++[Value.bool true]++(aN aD.zero++[Value.int .i64 0])=([Value.bool true]++aN aD.zero)++[Value.int .i64 0]++[]:=by simp
 rw [e1,bM ([Value.bool true]++aN aD.zero) [Value.int .i64 0] [] [.int .i64 n] rfl rfl rfl (by rw [List.length_append,ag];rfl),Instr.fill];simp [dE,aX])
theorem FY(l:Bool)(b:UInt8)(r:aF)(w:World):(Instr.build 64 [(0,Value.int .i64 1),(1,Value.bool l),(2,dE r),(3,Value.int .u8 (b.toNat:Int))].toArray).run prog w= .ok (Bz ⟨1,l,r,b⟩) w:=run_build w _ _ _ (by
 have hb:∀parts,prog.built 64 parts=Instr.fill (fun i=>#[(0,1),(1,1),(2,34),(36,1)][i]?) (eM ⟨0,false,aF.zero,0⟩).toArray parts:=fun parts=>by kernel_rfl
 show prog.built _ [(0,Value.int .i64 1),(1,Value.bool l),(2,dE r),(3,Value.int .u8 (b.toNat:Int))]=_;rw [hb];have e0:eM ⟨0,false,aF.zero,0⟩=[]++[Value.int .i64 0]++([Value.bool false]++aX aF.zero++[bc 0]):=rfl;rw [e0,bM [] [Value.int .i64 0] ([Value.bool false]++aX aF.zero++[bc 0]) [.int .i64 1] rfl rfl rfl rfl];have e1:[]++[Value.int .i64 1]++([Value.bool false]++aX aF.zero++[bc 0])=[Value.int .i64 1]++[Value.bool false]++(aX aF.zero++[bc 0]):=by simp
 rw [e1,bM [Value.int .i64 1] [Value.bool false] (aX aF.zero++[bc 0]) [Value.bool l] rfl rfl rfl rfl];have e2:[Value.int .i64 1]++[Value.bool l]++(aX aF.zero++[bc 0])=[Value.int .i64 1,.bool l]++aX aF.zero++[bc 0]:=by simp
 rw [e2,bM [Value.int .i64 1,.bool l] (aX aF.zero) [bc 0] (aX r) (by rw [ax];rfl) rfl (by rw [ax,ax]) rfl];have e3:[Value.int .i64 1,.bool l]++aX r++[bc 0]=([Value.int .i64 1,.bool l]++aX r)++[bc 0]++[]:=by simp
 rw [e3,bM ([Value.int .i64 1,.bool l]++aX r) [bc 0] [] [.int .u8 (b.toNat:Int)] rfl rfl rfl (by rw [List.length_append,ax];rfl),Instr.fill];simp [eM,bc])
theorem BH(g:Nat)(tv rv ov:Value)(at_ kept:Nat)(rs:List aF)(os:List ct)(ed:dm)(w:World)(hA:ew w g tv rv ov at_ kept rs os)(h1:at_≤1000000)(h2:ed.n≤1000000):Calls prog 29 #[.pointer (some ⟨g,0,none⟩),.agg (my ed).toArray] w (cB fun _ w'=>ew w' g tv rv ov (at_+ed.n) (at_+ed.n) rs os∧aE (fun k=>k=g) w w'):=by
 have hg0:=hA.bY.lt;have hog:=hA.og;have hrg:=hA.rg;refine ar 20 [] [(0,.pointer (some ⟨g,0,none⟩)),(1,.agg (my ed).toArray)] func29 rfl rfl rfl aL cz ?_;have hE:Ext w w:=aE.refl;refine CW.sr fun K1 hK1=>WL.box rfl rfl aw fun g3 w1 hx1 hg3 hB3=>?_;have hlt3:=hB3.lt;have hz1:=hx1.size;refine WL.nil (hK1 _ _ ?_);clear hK1;refine CW.seq fun K2 hK2=>?_;refine CW.held (fun wq=>aE (fun k=>k=g) w1 wq) aG 10 rfl fun w2 hx2=>?_;have hS:aE (fun k=>k=g) w1 w2:=hx2.aA;have hA2:=hA.ext (hx1.ae hx2);have hz2:=hx2.size;refine RH.tk 0 hS rfl (fun wq hq=>Y.move rfl)<|RH.tk 1 hS rfl (fun wq hq=>Y.nilCheck rfl)<|RH.tk 2 hS rfl (fun wq hq=>Y.fieldAddr fD rfl)<|RH.tk 4 hS rfl (fun wq hq=>Y.fieldAddr eC rfl)<|RH.tk 5 hS rfl (fun wq hq=>Y.ah underlying3 rfl (hB3.aA hq cq).mem.ko rfl)<|RH.one 3 aG ?_;refine RS.val rfl (Y.ah underlying3 rfl (vP hA2.bY.mem) rfl) aw ⟨hS,?_⟩;refine RH.tk 6 hS rfl (fun wq hq=>Y.add rfl rfl bB)<|RH.tk 7 hS rfl (fun wq hq=>Y.nilCheck rfl)<|RH.tk 8 hS rfl (fun wq hq=>Y.fieldAddr fD rfl)<|RH.one 9 aG ?_;refine RS.store rfl (g:=g) (pre:=[tv,rv]) (old:=[.int .i64 (at_:Int)]) (post:=[.int .i64 (kept:Int),ov]) (new:=[.int .i64 ((at_:Int)+(ed.n:Int))]) rfl rfl rfl rfl aG (by simpa [ia]using hA2.bY) rfl (dd rfl) (fun w3 hc3 hB3_=>?_);have hS:aE (fun k=>k=g) w1 w3:=hS.trans hc3 (fun k _ h=>h);have hB4:aK w3 g TM [tv,rv,.int .i64 ((at_:Int)+(ed.n:Int)),.int .i64 (kept:Int),ov]:=by simpa using hB3_
 refine⟨hS,?_⟩;refine RH.done aG ?_;refine hK2 _ _ ?_;clear hK2;refine CW.region<|WL.m rfl<|WL.m rfl<|WL.v (Y.nilCheck rfl)<|WL.v (Y.fieldAddr fD rfl)<|WL.v (Y.ah underlying3 rfl (show w3.cell? (Addr.add ⟨g,0,none⟩ 2)=some (.int .i64 ((at_:Int)+(ed.n:Int)))from hB4.mem.cell 2 rfl) rfl)<|WL.v (Y.nilCheck rfl)<|WL.v (Y.fieldAddr nF rfl)<|WL.store (g:=g) (pre:=[tv,rv,.int .i64 ((at_:Int)+(ed.n:Int))]) (old:=[.int .i64 (kept:Int)]) (post:=[ov]) (new:=[.int .i64 ((at_:Int)+(ed.n:Int))]) rfl rfl rfl rfl aG (by simpa using hB4) j0 (dd rfl) (fun w4 hc4 hB4_=>?_);have hz4:=hc4.size;have hB5:aK w4 g TM (ia tv rv (at_+ed.n) (at_+ed.n) ov):=by simpa [ia]using hB4_
 have hC:aE (fun k=>k=g) w w4:=((Ext.aA hx1).trans hS (fun k _ h=>h)).trans hc4 (fun k _ h=>h);refine WL.nil ?_;refine⟨_,rfl,?_⟩;exact⟨⟨hB5,hA.refs.aA hC (fun q hq h=>hrg q hq h),hA.ops.aA hC (fun q hq h=>hog q hq h)⟩,hC⟩
set_option maxHeartbeats 1000000 in
theorem Dv(g:Nat)(tv rv ov:Value)(at_ kept:Nat)(rs:List aF)(os:List ct)(ed:dm)(w:World)(hA:ew w g tv rv ov at_ kept rs os)(h1:at_+ed.n≤rs.length)(h2:rs.length≤1000000)(h3:os.length≤1000000):Calls prog 30 #[.pointer (some ⟨g,0,none⟩),.agg (my ed).toArray] w (cB fun _ w'=>∃ov',ew w' g tv rv ov' (at_+ed.n) kept rs (os++kF rs at_ ed.n)∧aE (fun k=>k=g∨ov.ownBlock=some k) w w'∧(∀q,ov'.ownBlock=some q→ov.ownBlock=some q∨w.heap.size≤q)):=by
 obtain⟨rA,rm,rc,rfl⟩:=hA.refs.lens;obtain⟨hrm,_,hrc⟩:=hA.refs.len ax aw;have hcl:=fun n=>xD (rs:=rs) (a:=at_) (n:=n);refine ar 36 [] [(0,.pointer (some ⟨g,0,none⟩)),(1,.agg (my ed).toArray)] func30 rfl rfl rfl aL cz ?_;have hE:Ext w w:=aE.refl;refine CW.sr fun K1 hK1=>WL.box rfl rfl aw fun g3 w1 hx1 hg3 hB3=>?_;have hlt3:=hB3.lt;have hz1:=hx1.size;have hE:=hE.ae hx1;refine WL.nil (hK1 _ _ ?_);clear hK1;refine CW.sr fun K2 hK2=>WL.v (Y.fieldAddr eC rfl)<|WL.v (Y.ah underlying3 rfl hB3.mem.ko rfl)<|WL.m rfl<|WL.nil (hK2 _ _ ?_);clear hK2;refine CW.block ?_;refine CW.loop (X:=Nat×Value) (fun x=>[(0,.pointer (some ⟨g,0,none⟩)),(5,.int .i64 (ed.n:Int)),(6,.int .i64 (x.1:Int))]) (fun x w0=>x.1≤ed.n∧ew w0 g tv (.slice rA rm rc) x.2 (at_+x.1) kept rs (os++kF rs at_ x.1)∧aE (fun k=>k=g∨ov.ownBlock=some k) w w0∧∀q,x.2.ownBlock=some q→ov.ownBlock=some q∨w.heap.size≤q) (fun x=>ed.n-x.1) (0,ov) Fr.ok ⟨Nat.zero_le _,(by simpa [kF]using hA.ext hE),Ext.aA hE,fun q h=>.inl h⟩ ?_;intro x w2 hl2;obtain⟨i,ov2⟩:=x;obtain⟨hi,hA2,hC,hf⟩:=hl2;dsimp only at hi hA2 hf⊢;have hE:Ext w2 w2:=aE.refl;have hzC:=hC.size;refine CW.sr fun K3 hK3=>WL.v (Y.lss rfl rfl)<|WL.nil (hK3 _ _ ?_);clear hK3;refine CW.seq fun K4 hK4=>?_;refine bp ?_ ?_<;>intro ht5
 ·refine CW.skip ?_;refine hK4 _ _ ?_;clear hK4;refine CW.seq fun K6 hK6=>?_;refine CW.block ?_;obtain⟨r,hr⟩:∃r,rs[at_+i]? =some r:=⟨_,List.getElem?_eq_getElem ai⟩;obtain⟨ra,hra,_⟩:=(hA2.refs.sl ax aw).get hr;subst hra;have hol:(os++kF rs at_ i).length≤2000000:=by have:=hcl i;rw [List.length_append];omega
  refine CW.bK (X:=Value) (fun v=>[(0,.pointer (some ⟨g,0,none⟩)),(5,.int .i64 (ed.n:Int)),(6,.int .i64 (i:Int))]) (fun v w0=>ew w0 g tv (.slice (some ra) rm rc) v (at_+i) kept rs (os++kF rs at_ (i+1))∧aE (fun k=>k=g∨ov2.ownBlock=some k) w2 w0∧∀q,v.ownBlock=some q→ov2.ownBlock=some q∨w2.heap.size≤q) ?_ ?_
  ·refine CW.held (fun wq=>aE (fun k=>k=g∨ov2.ownBlock=some k) w2 wq∧wq.cell? (Addr.add ⟨g,0,none⟩ 1)=some (Value.slice (some ra) rm rc)∧wq.cell? (Addr.add ⟨g,0,none⟩ 2)=some (.int .i64 ((at_+i:Nat):Int))) aG 21 rfl fun w3 hx3=>?_;have hA:=hA2.ext hx3;have hS1:aE (fun k=>k=g∨ov2.ownBlock=some k) w2 w3:=hx3.aA;have hS:aE (fun k=>k=g∨ov2.ownBlock=some k) w2 w3∧_∧_:=⟨hS1,wI hA.bY.mem,vP hA.bY.mem⟩;refine RH.tk 0 hS rfl (fun wq hq=>Y.move rfl)<|RH.tk 1 hS rfl (fun wq hq=>Y.move rfl)<|RH.tk 2 hS rfl (fun wq hq=>Y.nilCheck rfl)<|RH.tk 3 hS rfl (fun wq hq=>Y.fieldAddr dY rfl)<|RH.tk 5 hS rfl (fun wq hq=>Y.move rfl)<|RH.tk 6 hS rfl (fun wq hq=>Y.nilCheck rfl)<|RH.tk 7 hS rfl (fun wq hq=>Y.fieldAddr k4 rfl)<|RH.tk 8 hS rfl (fun wq hq=>Y.ah underlying91 rfl (hq.2.1) rfl)<|RH.tk 9 hS rfl (fun wq hq=>Y.move rfl)<|RH.tk 10 hS rfl (fun wq hq=>Y.nilCheck rfl)<|RH.tk 11 hS rfl (fun wq hq=>Y.fieldAddr fD rfl)<|RH.tk 12 hS rfl (fun wq hq=>Y.ah underlying3 rfl (hq.2.2) rfl)<|RH.tk 13 hS rfl (fun wq hq=>Y.af underlying91 rfl rfl ze ai) ?_;refine RH.tk 14 hS rfl (fun wq hq=>Y.load underlying62 rfl (hA2.ref hq.1 hr) (aT _) rfl)<|RH.tk 15 hS rfl (fun wq hq=>Y.build rfl (AW r _))<|RH.two 4 16 aG ?_ ?_
   ·refine RS.val rfl (Y.ah underlying27 rfl (Bx hA.bY.mem) rfl) aw ⟨hS,?_⟩;refine RH.one 16 aG ?_;refine RS.st rfl (St.buildSlice rfl (qh ⟨2,false,r,0⟩)) aw fun v24 w4 hR4=>?_;obtain⟨gb,rfl,hgb,hBb,hxb⟩:=hR4;have hzb:=hxb.size;have hA:=hA.ext hxb;have hS1:aE (fun k=>k=g∨ov2.ownBlock=some k) w2 w4:=hS1.ae hxb;have hS:aE (fun k=>k=g∨ov2.ownBlock=some k) w2 w4∧_∧_:=⟨hS1,wI hA.bY.mem,vP hA.bY.mem⟩;have hzS1:=hS1.size;refine⟨hS,?_⟩;refine RH.one 17 aG ?_;refine RS.st rfl (St.append (m:=1) (news:=eM ⟨2,false,r,0⟩) underlying27 underlying27 q5 rfl rfl hA.ops (Fw.Src.one hBb (aC _)) jM (by rw [aO aC];omega)) aw fun v25 w5 hR5=>?_;obtain⟨hO5,hc5,hf5⟩:=hR5;have hz5:=hc5.size;have hB5:=hA.bY.aA hc5 (fun h=>hA.og _ h rfl);have hr5:=hA.refs.aA hc5 (fun q hq h=>hA.ro q hq h);have hrg:=hA.rg;obtain⟨A7,m7,c7,rfl⟩:=hO5.lens;have hS1:aE (fun k=>k=g∨ov2.ownBlock=some k) w2 w5:=hS1.trans hc5 (fun q _ h=>.inr h);have hS:aE (fun k=>k=g∨ov2.ownBlock=some k) w2 w5∧_∧_:=⟨hS1,wI hB5.mem,vP hB5.mem⟩;refine⟨hS,?_⟩;refine RH.tk 18 hS rfl (fun wq hq=>Y.nilCheck rfl)<|RH.tk 19 hS rfl (fun wq hq=>Y.fieldAddr dY rfl)<|RH.one 20 aG ?_;refine RS.store rfl (g:=g) (pre:=[tv,.slice (some ra) rm rc,.int .i64 ((at_+i:Nat):Int),.int .i64 ((kept:Nat):Int)]) (old:=[ov2]) (post:=[]) (new:=[.slice A7 m7 c7]) rfl rfl rfl rfl aG (by simpa [ia]using hB5) rfl (dd rfl) (fun w6 hc6 hB6_=>?_);have hB6:aK w6 g TM (ia tv (.slice (some ra) rm rc) (at_+i) (kept) (.slice A7 m7 c7)):=by simpa [ia]using hB6_
    have hf6:∀q,(Value.slice A7 m7 c7).ownBlock=some q→ov2.ownBlock=some q∨w2.heap.size≤q:=fun q hq=>by
     have:=hS1.size;rcases hf5 with h|h
     ·rw [h]at hq;exact .inl hq
     ·have:=h q hq;exact .inr ai
    have hO6:=hO5.aA hc6 (fun q hq e=>by
     rcases hf5 with h|h
     ·rw [h]at hq;exact hA.og q hq e
     ·have h1:=h q hq;have h2:=hA.bY.lt;have h3:q=g:=e;omega)
    have hr6:=hr5.aA hc6 (fun q hq e=>hrg q hq e);have hA6:ew w6 g tv (.slice (some ra) rm rc) (.slice A7 m7 c7) (at_+i) (kept) rs (os++kF rs at_ (i+1)):=⟨hB6,hr6,by simpa [jF,qy hr]using hO6⟩;have hS1:aE (fun k=>k=g∨ov2.ownBlock=some k) w2 w6:=hS1.trans hc6 (fun q _ h=>.inl h);have hS:aE (fun k=>k=g∨ov2.ownBlock=some k) w2 w6∧_∧_:=⟨hS1,wI hB6.mem,vP hB6.mem⟩;refine⟨hS,?_⟩;refine RH.done aG ?_;exact⟨.slice A7 m7 c7,Fr.ok,hA6,hS1,hf6⟩
   ·refine RS.st rfl (St.buildSlice rfl (qh ⟨2,false,r,0⟩)) aw fun v24 w7 hR7=>?_;obtain⟨gb,rfl,hgb,hBb,hxb⟩:=hR7;have hzb:=hxb.size;have hA:=hA.ext hxb;have hS1:aE (fun k=>k=g∨ov2.ownBlock=some k) w2 w7:=hS1.ae hxb;have hS:aE (fun k=>k=g∨ov2.ownBlock=some k) w2 w7∧_∧_:=⟨hS1,wI hA.bY.mem,vP hA.bY.mem⟩;have hzS1:=hS1.size;refine⟨hS,?_⟩;refine RH.one 4 aG ?_;refine RS.val rfl (Y.ah underlying27 rfl (Bx hA.bY.mem) rfl) aw ⟨hS,?_⟩;refine RH.one 17 aG ?_;refine RS.st rfl (St.append (m:=1) (news:=eM ⟨2,false,r,0⟩) underlying27 underlying27 q5 rfl rfl hA.ops (Fw.Src.one hBb (aC _)) jM (by rw [aO aC];omega)) aw fun v25 w8 hR8=>?_;obtain⟨hO5,hc5,hf5⟩:=hR8;have hz5:=hc5.size;have hB5:=hA.bY.aA hc5 (fun h=>hA.og _ h rfl);have hr5:=hA.refs.aA hc5 (fun q hq h=>hA.ro q hq h);have hrg:=hA.rg;obtain⟨A7,m7,c7,rfl⟩:=hO5.lens;have hS1:aE (fun k=>k=g∨ov2.ownBlock=some k) w2 w8:=hS1.trans hc5 (fun q _ h=>.inr h);have hS:aE (fun k=>k=g∨ov2.ownBlock=some k) w2 w8∧_∧_:=⟨hS1,wI hB5.mem,vP hB5.mem⟩;refine⟨hS,?_⟩;refine RH.tk 18 hS rfl (fun wq hq=>Y.nilCheck rfl)<|RH.tk 19 hS rfl (fun wq hq=>Y.fieldAddr dY rfl)<|RH.one 20 aG ?_;refine RS.store rfl (g:=g) (pre:=[tv,.slice (some ra) rm rc,.int .i64 ((at_+i:Nat):Int),.int .i64 ((kept:Nat):Int)]) (old:=[ov2]) (post:=[]) (new:=[.slice A7 m7 c7]) rfl rfl rfl rfl aG (by simpa [ia]using hB5) rfl (dd rfl) (fun w9 hc9 hB9_=>?_);have hB6:aK w9 g TM (ia tv (.slice (some ra) rm rc) (at_+i) (kept) (.slice A7 m7 c7)):=by simpa [ia]using hB9_
    have hf6:∀q,(Value.slice A7 m7 c7).ownBlock=some q→ov2.ownBlock=some q∨w2.heap.size≤q:=fun q hq=>by
     have:=hS1.size;rcases hf5 with h|h
     ·rw [h]at hq;exact .inl hq
     ·have:=h q hq;exact .inr ai
    have hO6:=hO5.aA hc9 (fun q hq e=>by
     rcases hf5 with h|h
     ·rw [h]at hq;exact hA.og q hq e
     ·have h1:=h q hq;have h2:=hA.bY.lt;have h3:q=g:=e;omega)
    have hr6:=hr5.aA hc9 (fun q hq e=>hrg q hq e);have hA6:ew w9 g tv (.slice (some ra) rm rc) (.slice A7 m7 c7) (at_+i) (kept) rs (os++kF rs at_ (i+1)):=⟨hB6,hr6,by simpa [jF,qy hr]using hO6⟩;have hS1:aE (fun k=>k=g∨ov2.ownBlock=some k) w2 w9:=hS1.trans hc9 (fun q _ h=>.inl h);have hS:aE (fun k=>k=g∨ov2.ownBlock=some k) w2 w9∧_∧_:=⟨hS1,wI hB6.mem,vP hB6.mem⟩;refine⟨hS,?_⟩;refine RH.done aG ?_;exact⟨.slice A7 m7 c7,Fr.ok,hA6,hS1,hf6⟩
  rintro u w10 hj10;obtain⟨hA3,hC3,hf3⟩:=hj10;refine CW.region<|WL.m rfl<|WL.v (Y.nilCheck rfl)<|WL.v (Y.fieldAddr fD rfl)<|WL.v (Y.ah underlying3 rfl (vP hA3.bY.mem) rfl)<|WL.v (Y.add rfl rfl bB)<|WL.v (Y.nilCheck rfl)<|WL.v (Y.fieldAddr fD rfl)<|WL.store (g:=g) (pre:=[tv,.slice (some ra) rm rc]) (old:=[.int .i64 ((at_+i:Nat):Int)]) (post:=[.int .i64 (kept:Int),u]) (new:=[.int .i64 (((at_+i:Nat):Int)+1)]) rfl rfl rfl rfl aG (by simpa [ia]using hA3.bY) j0 (dd rfl) (fun w11 hc11 hB11_=>?_);have hz11:=hc11.size;have e:(((at_+i:Nat):Int)+1)=((at_+(i+1):Nat):Int):=by omega
  rw [e]at hB11_;have hA4:ew w11 g tv (.slice (some ra) rm rc) u (at_+(i+1)) kept rs (os++kF rs at_ (i+1)):=⟨hB11_,hA3.refs.aA hc11 (fun q hq h=>hA3.rg q hq h),hA3.ops.aA hc11 (fun q hq h=>hA3.og q hq h)⟩;have hCn:aE (fun k=>k=g∨ov.ownBlock=some k) w w11:=(hC.trans hC3 (fun k hk h=>by
   rcases h with h|h
   ·exact .inl h
   ·rcases hf k h with h|h
    ·exact .inr h
    ·omega)).trans hc11 (fun k _ h=>.inl h)
  have hfn:∀q,u.ownBlock=some q→ov.ownBlock=some q∨w.heap.size≤q:=fun q hq=>by
   rcases hf3 q hq with h|h
   ·exact hf q h
   ·have:=hC.size;exact .inr ai
  refine WL.nil (hK6 _ _ ?_);clear hK6;refine CW.region<|WL.v (Y.add rfl rfl bB)<|WL.m rfl<|WL.nil ?_;exact⟨(i+1,u),by show ed.n-(i+1)<ed.n-i;omega,Fr.ok,by show i+1≤ed.n;omega,hA4,hCn,hfn⟩
 refine CW.exit ?_;refine⟨_,rfl,?_⟩;obtain rfl:i=ed.n:=by omega
 exact⟨ov2,hA2,hC,hf⟩
set_option maxHeartbeats 1000000 in
theorem ER(tg rb ra:Nat)(ad:List aD)(ns:List Nn)(g:Nat)(tv rv ov:Value)(at_ kept:Nat)(rs:List aF)(os:List ct)(ed:dm)(w:World)(htv:tv= .pointer (some ⟨tg,0,none⟩))(hT:cH w tg rb ra ad ns)(hG:Fu.Good (Fw.aR ns))(hn:ns.length≤400001)(hA:ew w g tv rv ov at_ kept rs os)(h2:ed.text.length≤1000000)(h3:os.length≤1000000):Calls prog 31 #[.pointer (some ⟨g,0,none⟩),.agg (my ed).toArray] w (cB fun _ w'=>∃ov',ew w' g tv rv ov' at_ kept rs (os++fG (c4 (Fw.aR ns) (kept:Int)) os.length ed.text)∧aE (fun k=>k=g∨ov.ownBlock=some k) w w'∧(∀q,ov'.ownBlock=some q→ov.ownBlock=some q∨w.heap.size≤q)):=by
 obtain⟨ir,hir,hzr,hsr⟩:=gd;have hg0:=hA.bY.lt;have hrl:=hA.refs.lt;have hbs:=bT ed.text;have hA0:=hA;refine ar 50 [] [(0,.pointer (some ⟨g,0,none⟩)),(1,.agg (my ed).toArray)] func31 rfl rfl rfl aL cz ?_;have hE:Ext w w:=aE.refl;refine CW.sr fun K1 hK1=>WL.box rfl rfl aw fun g3 w1 hx1 hg3 hB3=>?_;have hlt3:=hB3.lt;have hz1:=hx1.size;have hE:=hE.ae hx1;refine WL.nil (hK1 _ _ ?_);clear hK1;refine CW.bK (X:=Nat) (fun v=>[(0,.pointer (some ⟨g,0,none⟩)),(3,.pointer (some ⟨g3,0,none⟩)),(4,.pointer (some ⟨v,0,none⟩)),(5,.bool (c4 (Fw.aR ns) (kept:Int)).2.1)]) (fun v w0=>Ext w1 w0∧w1.heap.size≤v∧aK w0 v FG (aX (c4 (Fw.aR ns) (kept:Int)).1)) ?_ ?_
 ·refine CW.held (fun wq=>Ext w1 wq) aG 17 rfl fun w2 hS=>RH.tk 0 hS rfl (fun wq hq=>Y.move rfl)<|RH.tk 1 hS rfl (fun wq hq=>Y.nilCheck rfl)<|RH.tk 2 hS rfl (fun wq hq=>Y.fieldAddr tZ rfl)<|RH.tk 3 hS rfl (fun wq hq=>Y.ah underlying48 rfl (by have h:=J2 ((hA.ext hE).ext hq).bY.mem;rw [htv]at h;exact h) rfl)<|RH.tk 4 hS rfl (fun wq hq=>Y.move rfl)<|RH.tk 5 hS rfl (fun wq hq=>Y.nilCheck rfl)<|RH.tk 6 hS rfl (fun wq hq=>Y.fieldAddr nF rfl)<|RH.tk 7 hS rfl (fun wq hq=>Y.ah underlying3 rfl (JU ((hA.ext hE).ext hq).bY.mem) rfl)<|RH.two 8 13 aG ?_ ?_
  ·refine RS.call rfl (fun _ _ h=>by cases h) func58 rfl rfl rfl (yi tg rb ra ad ns (kept:Int) _ ((hT.ext hE).ext hS) hG hn) aw fun v17 w3 hR3=>?_;obtain⟨rfl,hxa⟩:=hR3;have hS:=hS.ae hxa;have hzS:=hS.size;refine⟨hS,?_⟩;refine RH.tk 9 hS rfl (fun wq hq=>Y.move rfl)<|RH.tk 10 hS rfl (fun wq hq=>Y.extract rfl rfl)<|RH.tk 11 hS rfl (fun wq hq=>Y.extract rfl rfl)<|RH.tk 12 hS rfl (fun wq hq=>Y.extract rfl rfl)<|RH.one 13 aG ?_;refine RS.st rfl (St.Es hir hzr rfl) aw fun v4 w4 hR4=>?_;obtain⟨g4,rfl,hg4,hB4,hxc⟩:=hR4;have hS:=hS.ae hxc;refine⟨hS,?_⟩;refine RH.one 14 aG ?_;refine RS.store rfl (g:=g4) (pre:=[]) (old:=aX aF.zero) (post:=[]) (new:=aX (c4 (Fw.aR ns) (kept:Int)).1) rfl rfl rfl rfl (aT _) (by simpa using hB4) (by simp only [ax]) (dN) (fun w5 hc5 hB5_=>?_);have hB4:aK w5 g4 FG (aX (c4 (Fw.aR ns) (kept:Int)).1):=by simpa using hB5_
   have hS:Ext w1 w5:=hS.step hc5 (fun k h=>by have h:k=g4:=h;omega);refine⟨hS,?_⟩;refine RH.tk 15 hS rfl (fun wq hq=>Y.assign rfl)<|RH.tk 16 hS rfl (fun wq hq=>Y.assign rfl)<|RH.done aG ?_;have hx6:=hS;have hz6:=hx6.size;have hE:=hE.ae hx6;have hB3:=hB3.ext hx6;exact⟨g4,Fr.ok,hx6,by omega,hB4⟩
  ·refine RS.st rfl (St.Es hir hzr rfl) aw fun v4 w7 hR7=>?_;obtain⟨g4,rfl,hg4,hB4,hxc⟩:=hR7;have hzS:=hS.size;have hS:=hS.ae hxc;refine⟨hS,?_⟩;refine RH.one 8 aG ?_;refine RS.call rfl (fun _ _ h=>by cases h) func58 rfl rfl rfl (yi tg rb ra ad ns (kept:Int) _ ((hT.ext hE).ext hS) hG hn) aw fun v17 w8 hR8=>?_;obtain⟨rfl,hxa⟩:=hR8;have hS:=hS.ae hxa;have hB4:=hB4.ext hxa;refine⟨hS,?_⟩;refine RH.tk 9 hS rfl (fun wq hq=>Y.move rfl)<|RH.tk 10 hS rfl (fun wq hq=>Y.extract rfl rfl)<|RH.tk 11 hS rfl (fun wq hq=>Y.extract rfl rfl)<|RH.tk 12 hS rfl (fun wq hq=>Y.extract rfl rfl)<|RH.one 14 aG ?_;refine RS.store rfl (g:=g4) (pre:=[]) (old:=aX aF.zero) (post:=[]) (new:=aX (c4 (Fw.aR ns) (kept:Int)).1) rfl rfl rfl rfl (aT _) (by simpa using hB4) (by simp only [ax]) (dN) (fun w9 hc9 hB9_=>?_);have hB4:aK w9 g4 FG (aX (c4 (Fw.aR ns) (kept:Int)).1):=by simpa using hB9_
   have hS:Ext w1 w9:=hS.step hc9 (fun k h=>by have h:k=g4:=h;omega);refine⟨hS,?_⟩;refine RH.tk 15 hS rfl (fun wq hq=>Y.assign rfl)<|RH.tk 16 hS rfl (fun wq hq=>Y.assign rfl)<|RH.done aG ?_;have hx10:=hS;have hz10:=hx10.size;have hE:=hE.ae hx10;have hB3:=hB3.ext hx10;exact⟨g4,Fr.ok,hx10,by omega,hB4⟩
 rintro u w11 hj11;obtain⟨g4,rfl⟩:∃q,q=u:=⟨_,rfl⟩;obtain⟨hx11,hu,hB4⟩:=hj11;have hz11:=hx11.size;have hE:=hE.ae hx11;have hB3:=hB3.ext hx11;have hg34:=hB3.lt;refine CW.sr fun K2 hK2=>WL.v (Y.fieldAddr fb rfl)<|WL.v (Y.ah underlying9 rfl hB3.mem.lh rfl)<|WL.v (Y.aM underlying9 rfl)<|WL.m rfl<|WL.nil (hK2 _ _ ?_);clear hK2;refine CW.block ?_;refine CW.loop (X:=Nat×Value) (fun x=>[(0,.pointer (some ⟨g,0,none⟩)),(3,.pointer (some ⟨g3,0,none⟩)),(4,.pointer (some ⟨g4,0,none⟩)),(5,.bool (sk (c4 (Fw.aR ns) (kept:Int)) x.1)),(23,.int .i64 ((bs ed.text).size:Int)),(24,.int .i64 (x.1:Int))]) (fun x w0=>x.1≤ed.text.length∧ew w0 g tv rv x.2 at_ kept rs (os++(fG (c4 (Fw.aR ns) (kept:Int)) os.length ed.text).take x.1)∧aE (fun k=>k=g∨ov.ownBlock=some k) w w0∧(∀q,x.2.ownBlock=some q→ov.ownBlock=some q∨w.heap.size≤q)∧aK w0 g3 TE (my ed)∧aK w0 g4 FG (aX (mq (c4 (Fw.aR ns) (kept:Int)) os.length x.1))) (fun x=>ed.text.length-x.1) (0,ov) Fr.ok ⟨Nat.zero_le _,(by simpa using hA.ext hE),Ext.aA hE,(fun q h=>.inl h),hB3,hB4⟩ ?_;intro x w12 hl12;obtain⟨i,ov2⟩:=x;obtain⟨hi,hA2,hC,hf,hB3,hB4⟩:=hl12;dsimp only at hi hA2 hf hB4⊢;have hE:Ext w12 w12:=aE.refl;have hzC:=hC.size;refine CW.sr fun K3 hK3=>WL.v (Y.lss rfl rfl)<|WL.nil (hK3 _ _ ?_);clear hK3;refine CW.seq fun K4 hK4=>?_;refine bp ?_ ?_<;>intro ht5
 ·refine CW.skip ?_;refine hK4 _ _ ?_;clear hK4;refine CW.seq fun K6 hK6=>?_;refine CW.block<|CW.sr fun K7 hK7=>WL.m rfl<|WL.a rfl<|WL.nil (hK7 _ _ ?_);clear hK7;obtain⟨b,hb⟩:∃b,ed.text[i]? =some b:=⟨_,List.getElem?_eq_getElem ai⟩;have hib:i<(bs ed.text).size:=by omega
  have hbG:(bs ed.text)[i]=b:=by rw [Iq hib,hb];rfl
  have hol:(os++(fG (c4 (Fw.aR ns) (kept:Int)) os.length ed.text).take i).length≤2000000:=by rw [List.length_append,List.length_take,eK];omega
  have h3n:¬(g3=g∨ov2.ownBlock=some g3):=fun h=>by
   rcases h with h|h
   ·omega
   ·obtain⟨_,_,h1⟩:=hA2.ops.kind h;exact absurd (bW h1 hB3) aw
  have h4n:¬(g4=g∨ov2.ownBlock=some g4):=fun h=>by
   rcases h with h|h
   ·omega
   ·obtain⟨_,_,h1⟩:=hA2.ops.kind h;exact absurd (bW h1 hB4) aw
  refine CW.bK (X:=Value) (fun v=>[(0,.pointer (some ⟨g,0,none⟩)),(3,.pointer (some ⟨g3,0,none⟩)),(4,.pointer (some ⟨g4,0,none⟩)),(23,.int .i64 ((bs ed.text).size:Int)),(24,.int .i64 (i:Int))]) (fun v w0=>ew w0 g tv rv v at_ kept rs (os++(fG (c4 (Fw.aR ns) (kept:Int)) os.length ed.text).take (i+1))∧aE (fun k=>k=g∨ov2.ownBlock=some k) w12 w0∧∀q,v.ownBlock=some q→ov2.ownBlock=some q∨w12.heap.size≤q) ?_ ?_
  ·refine CW.held (fun wq=>aE (fun k=>k=g∨ov2.ownBlock=some k) w12 wq) aG 17 rfl fun w13 hx13=>?_;have hA:=hA2.ext hx13;have hS1:aE (fun k=>k=g∨ov2.ownBlock=some k) w12 w13:=hx13.aA;have hS:=hS1;refine RH.tk 0 hS rfl (fun wq hq=>Y.move rfl)<|RH.tk 1 hS rfl (fun wq hq=>Y.move rfl)<|RH.tk 2 hS rfl (fun wq hq=>Y.nilCheck rfl)<|RH.tk 3 hS rfl (fun wq hq=>Y.fieldAddr dY rfl)<|RH.tk 5 hS rfl (fun wq hq=>Y.move rfl)<|RH.tk 6 hS rfl (fun wq hq=>Y.load underlying62 rfl ((hB4.aA hq h4n).mem) (aT _) rfl)<|RH.tk 7 hS rfl (fun wq hq=>Y.fieldAddr fb rfl)<|RH.tk 8 hS rfl (fun wq hq=>Y.ah underlying9 rfl (hB3.aA hq h3n).mem.lh rfl)<|RH.tk 9 hS rfl (fun wq hq=>Y.move rfl)<|RH.tk 10 hS rfl (fun wq hq=>Y.cJ (i:=i) (s:=bs ed.text) underlying9 rfl rfl ai)<|RH.tk 11 hS rfl (fun wq hq=>Y.build rfl (FY _ _ _ _))<|RH.two 4 12 aG ?_ ?_
   ·refine RS.val rfl (Y.ah underlying27 rfl (Bx hA.bY.mem) rfl) aw ⟨hS,?_⟩;refine RH.one 12 aG ?_;refine RS.st rfl (St.buildSlice rfl (qh ⟨1,sk (c4 (Fw.aR ns) (kept:Int)) i,mq (c4 (Fw.aR ns) (kept:Int)) os.length i,(bs ed.text)[i]⟩)) aw fun v39 w14 hR14=>?_;obtain⟨gb,rfl,hgb,hBb,hxb⟩:=hR14;have hzb:=hxb.size;have hA:=hA.ext hxb;have hS1:aE (fun k=>k=g∨ov2.ownBlock=some k) w12 w14:=hS1.ae hxb;have hS:=hS1;have hzS1:=hS1.size;refine⟨hS,?_⟩;refine RH.one 13 aG ?_;refine RS.st rfl (St.append (m:=1) (news:=eM ⟨1,sk (c4 (Fw.aR ns) (kept:Int)) i,mq (c4 (Fw.aR ns) (kept:Int)) os.length i,(bs ed.text)[i]⟩) underlying27 underlying27 q5 rfl rfl hA.ops (Fw.Src.one hBb (aC _)) jM (by rw [aO aC];omega)) aw fun v40 w15 hR15=>?_;obtain⟨hO5,hc5,hf5⟩:=hR15;have hz5:=hc5.size;have hB5:=hA.bY.aA hc5 (fun h=>hA.og _ h rfl);have hr5:=hA.refs.aA hc5 (fun q hq h=>hA.ro q hq h);have hrg:=hA.rg;obtain⟨A7,m7,c7,rfl⟩:=hO5.lens;have hS1:aE (fun k=>k=g∨ov2.ownBlock=some k) w12 w15:=hS1.trans hc5 (fun q _ h=>.inr h);have hS:=hS1;refine⟨hS,?_⟩;refine RH.tk 14 hS rfl (fun wq hq=>Y.nilCheck rfl)<|RH.tk 15 hS rfl (fun wq hq=>Y.fieldAddr dY rfl)<|RH.one 16 aG ?_;refine RS.store rfl (g:=g) (pre:=[tv,rv,.int .i64 ((at_:Nat):Int),.int .i64 ((kept:Nat):Int)]) (old:=[ov2]) (post:=[]) (new:=[.slice A7 m7 c7]) rfl rfl rfl rfl aG (by simpa [ia]using hB5) rfl (dd rfl) (fun w16 hc16 hB16_=>?_);have hB6:aK w16 g TM (ia tv (rv) (at_) (kept) (.slice A7 m7 c7)):=by simpa [ia]using hB16_
    have hf6:∀q,(Value.slice A7 m7 c7).ownBlock=some q→ov2.ownBlock=some q∨w12.heap.size≤q:=fun q hq=>by
     have:=hS1.size;rcases hf5 with h|h
     ·rw [h]at hq;exact .inl hq
     ·have:=h q hq;exact .inr ai
    have hO6:=hO5.aA hc16 (fun q hq e=>by
     rcases hf5 with h|h
     ·rw [h]at hq;exact hA.og q hq e
     ·have h1:=h q hq;have h2:=hA.bY.lt;have h3:q=g:=e;omega)
    have hr6:=hr5.aA hc16 (fun q hq e=>hrg q hq e);have hA6:ew w16 g tv (rv) (.slice A7 m7 c7) (at_) (kept) rs (os++(fG (c4 (Fw.aR ns) (kept:Int)) os.length ed.text).take (i+1)):=⟨hB6,hr6,by simpa [jF,Go.Pl.take_succ (nX hb),hbG]using hO6⟩;have hS1:aE (fun k=>k=g∨ov2.ownBlock=some k) w12 w16:=hS1.trans hc16 (fun q _ h=>.inl h);have hS:=hS1;refine⟨hS,?_⟩;refine RH.done aG ?_;exact⟨.slice A7 m7 c7,Fr.ok,hA6,hS1,hf6⟩
   ·refine RS.st rfl (St.buildSlice rfl (qh ⟨1,sk (c4 (Fw.aR ns) (kept:Int)) i,mq (c4 (Fw.aR ns) (kept:Int)) os.length i,(bs ed.text)[i]⟩)) aw fun v39 w17 hR17=>?_;obtain⟨gb,rfl,hgb,hBb,hxb⟩:=hR17;have hzb:=hxb.size;have hA:=hA.ext hxb;have hS1:aE (fun k=>k=g∨ov2.ownBlock=some k) w12 w17:=hS1.ae hxb;have hS:=hS1;have hzS1:=hS1.size;refine⟨hS,?_⟩;refine RH.one 4 aG ?_;refine RS.val rfl (Y.ah underlying27 rfl (Bx hA.bY.mem) rfl) aw ⟨hS,?_⟩;refine RH.one 13 aG ?_;refine RS.st rfl (St.append (m:=1) (news:=eM ⟨1,sk (c4 (Fw.aR ns) (kept:Int)) i,mq (c4 (Fw.aR ns) (kept:Int)) os.length i,(bs ed.text)[i]⟩) underlying27 underlying27 q5 rfl rfl hA.ops (Fw.Src.one hBb (aC _)) jM (by rw [aO aC];omega)) aw fun v40 w18 hR18=>?_;obtain⟨hO5,hc5,hf5⟩:=hR18;have hz5:=hc5.size;have hB5:=hA.bY.aA hc5 (fun h=>hA.og _ h rfl);have hr5:=hA.refs.aA hc5 (fun q hq h=>hA.ro q hq h);have hrg:=hA.rg;obtain⟨A7,m7,c7,rfl⟩:=hO5.lens;have hS1:aE (fun k=>k=g∨ov2.ownBlock=some k) w12 w18:=hS1.trans hc5 (fun q _ h=>.inr h);have hS:=hS1;refine⟨hS,?_⟩;refine RH.tk 14 hS rfl (fun wq hq=>Y.nilCheck rfl)<|RH.tk 15 hS rfl (fun wq hq=>Y.fieldAddr dY rfl)<|RH.one 16 aG ?_;refine RS.store rfl (g:=g) (pre:=[tv,rv,.int .i64 ((at_:Nat):Int),.int .i64 ((kept:Nat):Int)]) (old:=[ov2]) (post:=[]) (new:=[.slice A7 m7 c7]) rfl rfl rfl rfl aG (by simpa [ia]using hB5) rfl (dd rfl) (fun w19 hc19 hB19_=>?_);have hB6:aK w19 g TM (ia tv (rv) (at_) (kept) (.slice A7 m7 c7)):=by simpa [ia]using hB19_
    have hf6:∀q,(Value.slice A7 m7 c7).ownBlock=some q→ov2.ownBlock=some q∨w12.heap.size≤q:=fun q hq=>by
     have:=hS1.size;rcases hf5 with h|h
     ·rw [h]at hq;exact .inl hq
     ·have:=h q hq;exact .inr ai
    have hO6:=hO5.aA hc19 (fun q hq e=>by
     rcases hf5 with h|h
     ·rw [h]at hq;exact hA.og q hq e
     ·have h1:=h q hq;have h2:=hA.bY.lt;have h3:q=g:=e;omega)
    have hr6:=hr5.aA hc19 (fun q hq e=>hrg q hq e);have hA6:ew w19 g tv (rv) (.slice A7 m7 c7) (at_) (kept) rs (os++(fG (c4 (Fw.aR ns) (kept:Int)) os.length ed.text).take (i+1)):=⟨hB6,hr6,by simpa [jF,Go.Pl.take_succ (nX hb),hbG]using hO6⟩;have hS1:aE (fun k=>k=g∨ov2.ownBlock=some k) w12 w19:=hS1.trans hc19 (fun q _ h=>.inl h);have hS:=hS1;refine⟨hS,?_⟩;refine RH.done aG ?_;exact⟨.slice A7 m7 c7,Fr.ok,hA6,hS1,hf6⟩
  rintro u w20 hj20;obtain⟨hA3,hC3,hf3⟩:=hj20;have hB3:=hB3.aA hC3 h3n;have hB4:=hB4.aA hC3 h4n;obtain⟨A8,m8,c8,rfl⟩:=hA3.ops.lens;refine CW.region<|WL.m rfl<|WL.v (Y.nilCheck rfl)<|WL.v (Y.fieldAddr dY rfl)<|WL.v (Y.ah underlying27 rfl (Bx hA3.bY.mem) rfl)<|WL.v (Y.aq underlying27 rfl)<|WL.v (Y.build rfl (x3 _ _))<|WL.store (g:=g4) (pre:=[]) (old:=aX (mq (c4 (Fw.aR ns) (kept:Int)) os.length i)) (post:=[]) (new:=aX ⟨true,aD.zero,(m8:Int)⟩) rfl rfl rfl rfl (aT _) (by simpa using hB4) (by simp only [ax]) (dN) (fun w21 hc21 hB21_=>?_);have hz21:=hc21.size;have hlm:m8=os.length+(i+1):=by
   have h:=(hA3.ops.len aC aw).1;rw [List.length_append,List.length_take,eK]at h;omega
  have h4o:=hB4;have hB4:aK w21 g4 FG (aX (mq (c4 (Fw.aR ns) (kept:Int)) os.length (i+1))):=by
   have e:mq (c4 (Fw.aR ns) (kept:Int)) os.length (i+1)=⟨true,aD.zero,(m8:Int)⟩:=by rw [hlm];rfl
   rw [e];simpa using hB21_
  have hB3:=hB3.aA hc21 (fun h=>by have h:g3=g4:=h;omega);have hA4:=hA3.aA hc21 (fun h=>by have h:g=g4:=h;omega) (fun q hq h=>by have h:q=g4:=h;have:=hrl q hq;omega) (fun q hq h=>by
   have h:q=g4:=h;subst h;obtain⟨_,_,h1⟩:=hA3.ops.kind hq;exact absurd (bW h1 h4o) aw)
  have hCn:aE (fun k=>k=g∨ov.ownBlock=some k) w w21:=(hC.trans hC3 (fun k hk h=>by
   rcases h with h|h
   ·exact .inl h
   ·rcases hf k h with h|h
    ·exact .inr h
    ·omega)).trans hc21 (fun k hk h=>by have h:k=g4:=h;exact False.elim ai)
  have hfn:∀q,(Value.slice A8 m8 c8).ownBlock=some q→ov.ownBlock=some q∨w.heap.size≤q:=fun q hq=>by
   rcases hf3 q hq with h|h
   ·exact hf q h
   ·have:=hC.size;exact .inr ai
  refine WL.a rfl<|WL.nil (hK6 _ _ ?_);clear hK6;refine CW.region<|WL.v (Y.add rfl rfl bB)<|WL.m rfl<|WL.nil ?_;exact⟨(i+1,.slice A8 m8 c8),by show ed.text.length-(i+1)<ed.text.length-i;omega,Fr.ok,by show i+1≤ed.text.length;omega,hA4,hCn,hfn,hB3,hB4⟩
 refine CW.exit ?_;refine⟨_,rfl,?_⟩;obtain rfl:i=ed.text.length:=by omega
 rw [List.take_of_length_le (by rw [eK];exact Nat.le_refl _)]at hA2;exact⟨ov2,hA2,hC,hf⟩
end Go.Proofs.YtmehkigmnpjcjaaGreatDoor
