/- Parts of a proof: what its last text leans on. No condition. -/
import Derived.Laws.MakeOwn
import Derived.Test.YtmehkigmnpjcjaaGreatDoorK08
set_option linter.unusedSimpArgs false
set_option linter.unusedVariables false
namespace Go.Proofs.YtmehkigmnpjcjaaGreatDoor
open Go.RowKit Go.Fw Go.Pl Go.Sort Go.Proofs.Tryz
def HA(a b:aD):Int:=if bX a b=true then-1 else if a=b then 0 else 1
theorem Hw(a b:aD):ltOf HA a b=bX a b:=by
 unfold ltOf HA;cases bX a b<;>simp
 split<;>simp
theorem zn(a b:aD)(w:World):Calls prog 80 #[cU a,cU b] w (cB fun v w'=>v= .int .i64 (HA a b)∧Ext w w'):=by
 refine ar 13 [4] [(0,cU a),(1,cU b)] func80 rfl rfl rfl aL cz ?_;have hE:Ext w w:=aE.refl;refine CW.sr fun K1 hK1=>WL.box rfl rfl aw fun g2 w1 hx1 hg2 hB2=>?_;have hlt2:=hB2.lt;have hz1:=hx1.size;have hE:=hE.ae hx1;refine WL.box rfl rfl aw fun g3 w2 hx2 hg3 hB3=>?_;have hlt3:=hB3.lt;have hz2:=hx2.size;have hE:=hE.ae hx2;have hB2:=hB2.ext hx2;refine WL.a rfl<|WL.nil (hK1 _ _ ?_);clear hK1;refine CW.seq fun K2 hK2=>?_;refine CW.block<|CW.sr fun K3 hK3=>WL.v (Y.load underlying42 rfl hB2.mem (aj _) rfl)<|WL.v (Y.load underlying42 rfl hB3.mem (aj _) rfl)<|WL.call func73 rfl rfl rfl (oX _ _ _) aL ?_;rintro v w3 ⟨rfl,hx3⟩;have hz3:=hx3.size;have hE:=hE.ae hx3;have hB2:=hB2.ext hx3;have hB3:=hB3.ext hx3;refine WL.a rfl<|WL.nil (hK3 _ _ ?_);clear hK3;refine bp ?_ ?_<;>intro ht4
 ·refine CW.sr fun K5 hK5=>WL.a rfl<|WL.nil (hK5 _ _ ?_);clear hK5;refine CW.ret ⟨_,rfl,?_⟩;exact⟨by rw [HA,if_pos (by assumption)],hE⟩
 refine CW.sr fun K6 hK6=>WL.v (Y.load underlying42 rfl hB2.mem (aj _) rfl)<|WL.v (Y.load underlying42 rfl hB3.mem (aj _) rfl)<|WL.v (Y.dD rfl rfl)<|WL.a rfl<|WL.nil (hK6 _ _ ?_);clear hK6;refine bp ?_ ?_<;>intro ht7
 ·refine CW.sr fun K8 hK8=>WL.a rfl<|WL.nil (hK8 _ _ ?_);clear hK8;refine CW.ret ⟨_,rfl,?_⟩;exact⟨by rw [HA,if_neg (by simp_all),if_pos (by assumption)],hE⟩
 refine CW.skip ?_;refine hK2 _ _ ?_;clear hK2;refine CW.sr fun K9 hK9=>WL.a rfl<|WL.nil (hK9 _ _ ?_);clear hK9;refine CW.ret ⟨_,rfl,?_⟩;exact⟨by rw [HA,if_neg (by simp_all),if_neg (by assumption)],hE⟩
theorem zH(y:gj)(ids:List aD)(r cl:Nat)(w:World)(hx:Sl w aN 32 y.pv y.n.ps)(hM:b7 w r zI (eu ids) cl):Calls prog 98 #[H2 y,.map (some r)] w (cB fun v w'=>v= .int .i64 (dx ids y.n)∧Ext w w'):=by
 have hx0:=hx;have hM0:=hM;obtain⟨⟨id,ps⟩,A,c⟩:=y;obtain⟨_,_,_,he,hl,hmc,hcm,_⟩:=hx;cases he
 have hx:=hx0;unfold maxLen at hcm;dsimp only [gj.pv]at hx hx0 hl hmc⊢;refine ar 64 [4] [(0,H2 ⟨⟨id,ps⟩,A,c⟩),(1,.map (some r))] func98 rfl rfl rfl aL cz ?_;have hE:Ext w w:=aE.refl;refine CW.sr fun K1 hK1=>WL.box rfl rfl aw fun g2 w1 hx1 hg2 hB2=>?_;have hlt2:=hB2.lt;have hz1:=hx1.size;have hE:=hE.ae hx1;have hx:=hx.ext hx1;have hM:=hM.ext hx1;refine WL.a rfl<|WL.nil (hK1 _ _ ?_);clear hK1;refine CW.seq fun K2 hK2=>CW.sr fun K3 hK3=>WL.v (Y.fieldAddr dW rfl)<|WL.v (Y.ah underlying25 rfl hB2.mem.node1 rfl)<|WL.v (Y.aq underlying25 rfl)<|WL.v (Y.gtr rfl rfl)<|WL.nil (hK3 _ _ ?_);clear hK3;refine bp ?_ ?_<;>intro ht4
 ·refine CW.sr fun K5 hK5=>WL.a rfl<|WL.nil (hK5 _ _ ?_);clear hK5;refine CW.ret ⟨_,rfl,?_⟩;exact⟨by rw [dx,if_pos (by show 8<ps.length;omega)],hE⟩
 refine CW.skip ?_;refine hK2 _ _ ?_;clear hK2;refine CW.seq fun K6 hK6=>CW.sr fun K7 hK7=>WL.v (Y.fieldAddr dW rfl)<|WL.v (Y.ah underlying25 rfl hB2.mem.node1 rfl)<|WL.v (Y.aq underlying25 rfl)<|WL.m rfl<|WL.nil (hK7 _ _ ?_);clear hK7;refine CW.block ?_;refine CW.loop (X:=Nat) (fun x=>[(1,.map (some r)),(2,.pointer (some ⟨g2,0,none⟩)),(18,.int .i64 (ps.length:Int)),(19,.int .i64 (x:Int))]) (fun x w0=>x≤ps.length∧(∀i a b,i+1<x→ps[i]? =some a→ps[i+1]? =some b→bX a b=true)∧Ext w w0∧aK w0 g2 vf (ob ⟨⟨id,ps⟩,A,c⟩)) (fun x=>ps.length-x) 0 Fr.ok ⟨Nat.zero_le _,(fun i a b h=>by omega),hE,hB2⟩ ?_;intro x w2 hl2;obtain⟨hxl,hris,hE,hB2⟩:=hl2;have hx:=hx0.ext hE;have hM:=hM0.ext hE;refine CW.sr fun K8 hK8=>WL.v (Y.lss rfl rfl)<|WL.nil (hK8 _ _ ?_);clear hK8;refine CW.seq fun K9 hK9=>?_;refine bp ?_ ?_<;>intro ht10
 ·refine CW.skip ?_;refine hK9 _ _ ?_;clear hK9;refine CW.seq fun K11 hK11=>?_;refine CW.block<|CW.sr fun K12 hK12=>WL.m rfl<|WL.a rfl<|WL.nil (hK12 _ _ ?_);clear hK12;obtain⟨p,hp⟩:∃p,ps[x]? =some p:=⟨_,List.getElem?_eq_getElem ai⟩;obtain⟨q,hq0⟩:∃q,0<x→ps[x-1]? =some q:=by
   by_cases h:0<x
   ·exact⟨ps[x-1]'ai,fun _=>List.getElem?_eq_getElem ai⟩
   ·exact⟨p,fun h2=>absurd h2 h⟩
  obtain⟨a,rfl,hma⟩:=hx.at hp;have hmq:0<x→Mem w2 (a.add ((x-1)*32)) (aN q):=fun h=>by
   obtain⟨a2,ha2,hm2⟩:=hx.at (hq0 h);cases ha2;exact hm2
  refine CW.cP 38 (0<x∧bX q p=false) ?_ ?_
  ·refine CW.quiet (fun wq=>Ext w2 wq) aG aG aE.drew<|QL.m rfl<|QL.v (fun wq hq=>Y.gtr rfl rfl)<|QL.m rfl ?_;refine dO ?_ ?_<;>intro hg24
   ·refine QL.g rfl rfl (fun wq hq=>Y.fieldAddr dW rfl)<|QL.g rfl rfl (fun wq hq=>Y.ah underlying25 rfl (hB2.ext hq).mem.node1 rfl)<|QL.g rfl rfl (fun wq hq=>Y.move rfl)<|QL.g rfl rfl (fun wq hq=>Y.Jp (q:=1) rfl rfl ai ai)<|QL.g rfl rfl (fun wq hq=>Y.af underlying25 rfl rfl aJ ai)<|QL.g rfl rfl (fun wq hq=>Y.load underlying42 rfl ((hmq ai).ext hq) (aj _) rfl)<|QL.g rfl rfl (fun wq hq=>Y.fieldAddr dW rfl)<|QL.g rfl rfl (fun wq hq=>Y.ah underlying25 rfl (hB2.ext hq).mem.node1 rfl)<|QL.g rfl rfl (fun wq hq=>Y.move rfl)<|QL.g rfl rfl (fun wq hq=>Y.af underlying25 rfl rfl aJ ai)<|QL.g rfl rfl (fun wq hq=>Y.load underlying42 rfl (hma.ext hq) (aj _) rfl)<|QL.lz rfl rfl func73 rfl rfl rfl (fun wq hq=>cA (oX _ _ _) hq) aw<|QL.g rfl rfl (fun wq hq=>Y.not rfl) ?_;refine QL.v (fun wq hq=>Y.pick rfl rfl)<|QL.nil fun wq hq=>⟨⟨_,rfl,?_⟩,hq,Fr.cT⟩;exact aH
   ·refine QL.o rfl rfl<|QL.o rfl rfl<|QL.o rfl rfl<|QL.o rfl rfl<|QL.o rfl rfl<|QL.o rfl rfl<|QL.o rfl rfl<|QL.o rfl rfl<|QL.o rfl rfl<|QL.o rfl rfl<|QL.o rfl rfl<|QL.o rfl rfl<|QL.o rfl rfl ?_;refine QL.v (fun wq hq=>Y.pick rfl rfl)<|QL.nil fun wq hq=>⟨⟨_,rfl,?_⟩,hq,Fr.cT⟩;exact aH
  intro w3 hx3;have hz3:=hx3.size;have hE:=hE.ae hx3;have hx:=hx.ext hx3;have hM:=hM.ext hx3;have hB2:=hB2.ext hx3;refine bp ?_ ?_<;>intro ht13
  ·refine CW.sr fun K14 hK14=>WL.a rfl<|WL.nil (hK14 _ _ ?_);clear hK14;refine CW.ret ⟨_,rfl,?_⟩;exact⟨by rw [dx,if_neg (by show¬8<ps.length;omega),if_pos (sJ (hq0 ht13.1) (by rw [Nat.sub_add_cancel ht13.1];exact hp) ht13.2)],hE⟩
  refine CW.skip ?_;refine hK11 _ _ ?_;clear hK11;refine CW.region<|WL.v (Y.add rfl rfl bB)<|WL.m rfl<|WL.nil ?_;refine⟨x+1,by show ps.length-(x+1)<ps.length-x;omega,Fr.ok,by show x+1≤ps.length;omega,?_,hE,hB2⟩;intro i a2 b2 hi h1 h2;by_cases e:i+1<x
  ·exact hris i a2 b2 e h1 h2
  ·have e2:i=x-1:=by omega
   subst e2;rw [Nat.sub_add_cancel ai,hp]at h2;rw [hq0 ai]at h1;cases h1;cases h2
   cases hc:bX q p with
   |true=>rfl
   |false=>exact absurd ⟨by omega,hc⟩ ht13
 refine CW.exit ?_;refine hK6 _ _ ?_;clear hK6;refine CW.seq fun K15 hK15=>CW.sr fun K16 hK16=>WL.m rfl<|WL.v (Y.fieldAddr dX rfl)<|WL.v (Y.load underlying42 rfl hB2.mem.nC (aj _) rfl)<|WL.v (Y.mC iP (fun _=>rfl) underlying71 mU rfl rfl hM)<|WL.m rfl<|WL.v (Y.extract rfl rfl)<|WL.v (Y.extract rfl rfl)<|WL.a rfl<|WL.a rfl<|WL.nil (hK16 _ _ ?_);clear hK16;refine CW.sr fun K17 hK17=>WL.m rfl<|WL.nil (hK17 _ _ ?_);clear hK17;refine bp ?_ ?_<;>intro ht18
 ·refine CW.sr fun K19 hK19=>WL.a rfl<|WL.nil (hK19 _ _ ?_);clear hK19;refine CW.ret ⟨_,rfl,?_⟩;exact⟨by rw [dx,if_neg (by show¬8<ps.length;omega),if_neg (by rw [pf fun i a b h1 h2=>hris i a b (by have:=(List.getElem?_eq_some_iff.1 h2).1;omega) h1 h2];decide),if_pos (by have:=ht18;rw [da]at this;simpa using this)],hE⟩
 refine CW.skip ?_;refine hK15 _ _ ?_;clear hK15;refine CW.seq fun K20 hK20=>CW.seq fun K21 hK21=>?_;have hrisT:mP ps=true:=pf fun i a b h1 h2=>hris i a b (by have:=(List.getElem?_eq_some_iff.1 h2).1;omega) h1 h2;have hnid:¬id∈ids:=fun h=>by have:=ht18;rw [da]at this;simp [h]at this
 refine CW.region<|WL.v (Y.fieldAddr dW rfl)<|WL.v (Y.ah underlying25 rfl hB2.mem.node1 rfl)<|WL.v (Y.aq underlying25 rfl)<|WL.m rfl<|WL.nil (hK21 _ _ ?_);clear hK21;refine CW.block ?_;refine CW.loop (X:=Nat) (fun x=>[(1,.map (some r)),(2,.pointer (some ⟨g2,0,none⟩)),(49,.slice A ps.length c),(50,.int .i64 (ps.length:Int)),(51,.int .i64 (x:Int))]) (fun x w0=>x≤ps.length∧(∀i a,i<x→ps[i]? =some a→a∈ids)∧Ext w w0∧aK w0 g2 vf (ob ⟨⟨id,ps⟩,A,c⟩)) (fun x=>ps.length-x) 0 Fr.ok ⟨Nat.zero_le _,(fun i a h=>by omega),hE,hB2⟩ ?_;intro x w4 hl4;obtain⟨hxl,hin,hE,hB2⟩:=hl4;have hx:=hx0.ext hE;have hM:=hM0.ext hE;refine CW.sr fun K22 hK22=>WL.v (Y.lss rfl rfl)<|WL.nil (hK22 _ _ ?_);clear hK22;refine CW.seq fun K23 hK23=>?_;refine bp ?_ ?_<;>intro ht24
 ·refine CW.skip ?_;refine hK23 _ _ ?_;clear hK23;refine CW.seq fun K25 hK25=>?_;refine CW.block<|CW.seq fun K26 hK26=>?_;obtain⟨p,hp⟩:∃p,ps[x]? =some p:=⟨_,List.getElem?_eq_getElem ai⟩;obtain⟨a,rfl,hma⟩:=hx.at hp;refine CW.region<|WL.v (Y.af underlying25 rfl rfl aJ ai)<|WL.v (Y.load underlying42 rfl hma (aj _) rfl) ?_;refine ck rfl aL aw fun g9 w5 hx5 hg9 hB9=>?_;have hlt9:=hB9.lt;have hz5:=hx5.size;have hE:=hE.ae hx5;have hM:=hM.ext hx5;have hB2:=hB2.ext hx5;refine WL.nil (hK26 _ _ ?_);clear hK26;refine CW.sr fun K27 hK27=>WL.m rfl<|WL.v (Y.load underlying42 rfl hB9.mem (aj _) rfl)<|WL.v (Y.mC iP (fun _=>rfl) underlying71 mU rfl rfl hM)<|WL.m rfl<|WL.v (Y.extract rfl rfl)<|WL.v (Y.extract rfl rfl)<|WL.a rfl<|WL.a rfl<|WL.nil (hK27 _ _ ?_);clear hK27;refine CW.sr fun K28 hK28=>WL.m rfl<|WL.v (Y.not rfl)<|WL.nil (hK28 _ _ ?_);clear hK28;refine bp ?_ ?_<;>intro ht29
  ·refine CW.sr fun K30 hK30=>WL.a rfl<|WL.nil (hK30 _ _ ?_);clear hK30;refine CW.ret ⟨_,rfl,?_⟩;exact⟨by rw [dx,if_neg (by show¬8<ps.length;omega),if_neg (by show¬mP ps=false;rw [hrisT];decide),if_neg hnid,if_pos ⟨p,List.mem_of_getElem? hp,by have:=ht29;rw [da]at this;simpa using this⟩],hE⟩
  refine CW.skip ?_;refine hK25 _ _ ?_;clear hK25;refine CW.region<|WL.v (Y.add rfl rfl bB)<|WL.m rfl<|WL.nil ?_;refine⟨x+1,by show ps.length-(x+1)<ps.length-x;omega,Fr.ok,by show x+1≤ps.length;omega,?_,hE,hB2⟩;intro i a2 hi h1;by_cases e:i<x
  ·exact hin i a2 e h1
  ·have e2:i=x:=by omega
   subst e2;rw [hp]at h1;cases h1
   have:=ht29;rw [da]at this;simpa using this
 refine CW.exit ?_;refine hK20 _ _ ?_;clear hK20;refine CW.sr fun K31 hK31=>WL.a rfl<|WL.nil (hK31 _ _ ?_);clear hK31;refine CW.ret ⟨_,rfl,?_⟩;exact⟨by rw [dx,if_neg (by show¬8<ps.length;omega),if_neg (by show¬mP ps=false;rw [hrisT];decide),if_neg hnid,if_neg (by
  rintro⟨p,hp,hn⟩;obtain⟨i,hi⟩:=List.mem_iff_getElem?.1 hp;have hi:ps[i]? =some p:=hi;exact hn (hin i p (by have:=(List.getElem?_eq_some_iff.1 hi).1;omega) hi))],hE⟩
theorem BV(u:Value)(l:List gj)(w:World)(hl:oR w u l):Calls prog 78 #[u] w (cB fun v w'=>∃m,v= .tuple #[m,.int .i64 ((bL (aQ l)).1:Int),.int .i64 (bL (aQ l)).2]∧((bL (aQ l)).2=0→∃r,m= .map (some r)∧w.heap.size≤r∧b7 w' r zI (eu (bz (aQ l))) l.length)∧Ext w w'):=by
 have hl0:=hl;obtain⟨⟨A,m,c,rfl,hlm,hmc,hcm,hlx⟩,hps⟩:=hl;unfold maxLen at hcm;obtain⟨id,hid,hzd,_⟩:=vv;have hln:(aQ l).length=m:=by simpa using hlm
 refine ar 35 [2,3,4] [(0,.slice A m c)] func78 rfl rfl rfl aL du ?_;have hE:Ext w w:=aE.refl;refine CW.sr fun K1 hK1=>WL.a rfl<|WL.a rfl<|WL.a rfl<|WL.nil (hK1 _ _ ?_);clear hK1;refine CW.seq fun K2 hK2=>CW.sr fun K3 hK3=>WL.m rfl<|WL.v (Y.aq underlying38 rfl)<|WL.v (Y.gtr rfl rfl)<|WL.nil (hK3 _ _ ?_);clear hK3;refine bp ?_ ?_<;>intro ht4
 ·refine CW.sr fun K5 hK5=>WL.a rfl<|WL.a rfl<|WL.a rfl<|WL.nil (hK5 _ _ ?_);clear hK5;refine CW.ret ⟨_,rfl,?_⟩;have he:bL (aQ l)=(0,4):=by rw [bL,if_pos ai]
  exact⟨_,by rw [he];rfl,fun h=>by rw [he]at h;simp at h,hE⟩
 refine CW.skip ?_;refine hK2 _ _ ?_;clear hK2;refine CW.sr fun K6 hK6=>WL.m rfl<|WL.v (Y.aq underlying38 rfl)<|WL.st (St.Er underlying71 rfl) aw fun v14 w1 hR1=>?_;obtain⟨r,rfl,hr,hMp,hx1⟩:=hR1;have hz1:=hx1.size;have hE:=hE.ae hx1;have hM:=hMp _ zI;have hre:bL (aQ l)=fQ (aQ l) [] 0:=by rw [bL,if_neg ai]
 refine WL.a rfl<|WL.nil (hK6 _ _ ?_);clear hK6;refine CW.seq fun K7 hK7=>CW.sr fun K8 hK8=>WL.m rfl<|WL.v (Y.aq underlying38 rfl)<|WL.m rfl<|WL.nil (hK8 _ _ ?_);clear hK8;refine CW.block ?_;refine CW.loop (X:=Nat) (fun x=>[(5,.map (some r)),(15,.slice A m c),(16,.int .i64 (m:Int)),(17,.int .i64 (x:Int))]) (fun x w0=>x≤m∧fQ (aQ l) [] 0=fQ ((aQ l).drop x) (bz ((aQ l).take x)) x∧Ext w w0∧b7 w0 r zI (eu (bz ((aQ l).take x))) x) (fun x=>m-x) 0 Fr.ok ⟨Nat.zero_le _,by simp,hE,by simpa using hM⟩ ?_;intro x w2 hl2;clear hE hM;obtain⟨hxm,hfw,hE,hM⟩:=hl2;have hzE:=hE.size;refine CW.sr fun K9 hK9=>WL.v (Y.lss rfl rfl)<|WL.nil (hK9 _ _ ?_);clear hK9;refine CW.seq fun K10 hK10=>?_;refine bp ?_ ?_<;>intro ht11
 ·refine CW.skip ?_;refine hK10 _ _ ?_;clear hK10;refine CW.seq fun K12 hK12=>?_;refine CW.block<|CW.seq fun K13 hK13=>?_;obtain⟨y,hy⟩:∃y,l[x]? =some y:=⟨_,List.getElem?_eq_getElem ai⟩;obtain⟨a,rfl,hma⟩:=hlx _ _ hy;have hyn:(aQ l)[x]? =some y.n:=by simp [hy]
  refine CW.region<|WL.m rfl<|WL.v (Y.af underlying38 rfl rfl cc ai)<|WL.v (Y.load underlying44 rfl (hma.ext hE) (od _) rfl)<|WL.alloc (hid) (hzd) rfl aw fun g7 w3 hx3 hg7 hB7=>?_;have hlt7:=hB7.lt;have hz3:=hx3.size;have hE:=hE.ae hx3;refine WL.a rfl<|WL.store (g:=g7) (pre:=[]) (old:=ob gj.zero) (post:=[]) (new:=ob y) rfl rfl rfl rfl (od _) (by simpa using hB7) (by rw [cW,cW]) (pb) (fun w4 hc4 hB4_=>?_);have hz4:=hc4.size;have hE:=hE.step hc4 (fun k h=>by omega);have hB7:aK w4 g7 vf (ob y):=by simpa using hB4_
  have hM:=(hM.ext hx3).aA hc4 (fun h=>by have:=hM.lt;omega);refine WL.nil (hK13 _ _ ?_);clear hK13;refine CW.seq fun K14 hK14=>CW.sr fun K15 hK15=>WL.v (Y.load underlying44 rfl hB7.mem (od _) rfl)<|WL.m rfl<|WL.call func98 rfl rfl rfl (zH y _ r _ _ ((hps y (List.mem_of_getElem? hy)).ext hE) hM) aL ?_;rintro v w5 ⟨rfl,hx5⟩;have hz5:=hx5.size;have hE:=hE.ae hx5;have hB7:=hB7.ext hx5;refine WL.a rfl<|WL.nil (hK15 _ _ ?_);clear hK15;refine CW.sr fun K16 hK16=>WL.m rfl<|WL.v (Y.neq rfl rfl)<|WL.nil (hK16 _ _ ?_);clear hK16;refine bp ?_ ?_<;>intro ht17
  ·refine CW.sr fun K18 hK18=>WL.m rfl<|WL.m rfl<|WL.a rfl<|WL.a rfl<|WL.a rfl<|WL.nil (hK18 _ _ ?_);clear hK18;refine CW.ret ⟨_,rfl,?_⟩;exact⟨_,by rw [hre,hfw,mQ hyn (by assumption)],fun h=>by rw [hre,hfw,mQ hyn (by assumption)]at h;exact absurd h (by assumption),hE⟩
  refine CW.skip ?_;refine hK14 _ _ ?_;clear hK14;have hw0:dx (bz ((aQ l).take x)) y.n=0:=Decidable.not_not.1 (by assumption);have hok:=sZ hw0;have hM:=hM.ext hx5;refine CW.region<|WL.m rfl<|WL.v (Y.fieldAddr dX rfl)<|WL.v (Y.load underlying42 rfl hB7.mem.nC (aj _) rfl)<|WL.m rfl<|WL.su (Su.qu (b:=(y.n.id,x)) iP (fun _=>rfl) underlying71 rfl rfl rfl hM (qK hok.2.2.1) rfl) fun w6 hR6=>?_;obtain⟨hM,hc6⟩:=hR6;have hz6:=hc6.size;have hE:=hE.step hc6 (fun k h=>by omega);refine WL.nil (hK12 _ _ ?_);clear hK12;refine CW.region<|WL.v (Y.add rfl rfl bB)<|WL.m rfl<|WL.nil ?_;refine⟨x+1,by show m-(x+1)<m-x;omega,Fr.ok,by show x+1≤m;omega,hfw.trans (qD hyn hw0),hE,?_⟩;show b7 _ r zI (eu (bz ((aQ l).take (x+1)))) (x+1);rw [take_succ hyn,bz,List.map_append,List.map_cons,List.map_nil,tu];have e:(List.map Nd.id (List.take x (aQ l))).length=x:=by rw [List.length_map,List.length_take];omega
  rw [e];exact hM
 refine CW.exit ?_;refine hK7 _ _ ?_;clear hK7;refine CW.sr fun K19 hK19=>WL.m rfl<|WL.a rfl<|WL.a rfl<|WL.a rfl<|WL.nil (hK19 _ _ ?_);clear hK19;refine CW.ret ⟨_,rfl,?_⟩;have hxm2:x=m:=by omega
 subst hxm2;have e1:(aQ l).drop x=[]:=List.drop_of_length_le ai;have e2:(aQ l).take x=aQ l:=List.take_of_length_le ai;have hr0:bL (aQ l)=(0,0):=by rw [hre,hfw,e1];rfl
 rw [e2]at hM;exact⟨_,by rw [hr0];rfl,fun _=>⟨r,rfl,hr,by rw [hlm];exact hM⟩,hE⟩
end Go.Proofs.YtmehkigmnpjcjaaGreatDoor
namespace Go.Pl
open Go.Fw
def gw(ids:List aD)(d:aD):Int:=if d∈ids then(ids.idxOf d:Int)else-1
theorem jV{ids:List aD}{d:aD}:gw ids d<0↔d∉ids:=by
 unfold gw;split<;>rename_i h
 ·exact⟨fun x=>by omega,fun x=>absurd h x⟩
 ·exact⟨fun _=>h,fun _=>by omega⟩
theorem o8{ids:List aD}{d:aD}{i:Nat}(hi:ids[i]? =some d)(h:∀j,j<i→ids[j]? ≠some d):gw ids d=(i:Int):=by
 have hm:d∈ids:=List.mem_of_getElem? hi;rw [gw,if_pos hm];have hlt:=List.idxOf_lt_length_iff.2 hm;have h1:ids[ids.idxOf d]? =some d:=by
  rw [List.getElem?_eq_getElem hlt,List.getElem_idxOf hlt]
 have h2:¬ids.idxOf d<i:=fun hc=>h _ hc h1;have h3:ids.idxOf d≤i:=by
  obtain⟨hil,hid⟩:=List.getElem?_eq_some_iff.1 hi;refine Nat.le_of_not_lt fun hc=>?_;have:=List.not_of_lt_findIdx (p:=fun x=>x==d) (xs:=ids) hc;simp [hid]at this
 omega
def eh(l:List Nd)(ids:List aD):Int:=if(bL l).2≠0 then(bL l).2 else if∃d∈ids,d∉bz l then 5 else 0
end Go.Pl
namespace Go.Proofs.YtmehkigmnpjcjaaGreatDoor
open Go.RowKit Go.Fw Go.Pl Go.Sort Go.Proofs.Tryz
theorem oR.take{w:World}{A:Option Addr}{m c:Nat}{l:List gj}(h:oR w (.slice A m c) l){i:Nat}(hi:i≤m):oR w (.slice A i c) (l.take i):=by
 obtain⟨⟨A',m',c',he,hl,hmc,hcm,hx⟩,hp⟩:=h;cases he
 refine⟨⟨A,i,c,rfl,by rw [List.length_take];omega,by omega,hcm,fun j x hj=>?_⟩,fun x hx=>hp x (List.mem_of_mem_take hx)⟩;rw [List.getElem?_take]at hj;split at hj
 ·exact hx j x hj
 ·cases hj
theorem lB(u:Value)(l:List gj)(d:aD)(w:World)(hl:oR w u l):Calls prog 63 #[u,cU d] w (cB fun v w'=>v= .int .i64 (gw (bz (aQ l)) d)∧Ext w w'):=by
 have hl0:=hl;obtain⟨⟨A,m,c,rfl,hlm,hmc,hcm,hlx⟩,hps⟩:=hl;unfold maxLen at hcm;refine ar 20 [4] [(0,.slice A m c),(1,cU d)] func63 rfl rfl rfl aL cz ?_;have hE:Ext w w:=aE.refl;refine CW.sr fun K1 hK1=>WL.box rfl rfl aw fun g3 w1 hx1 hg3 hB3=>?_;have hlt3:=hB3.lt;have hz1:=hx1.size;have hE:=hE.ae hx1;refine WL.a rfl<|WL.nil (hK1 _ _ ?_);clear hK1;refine CW.seq fun K2 hK2=>CW.sr fun K3 hK3=>WL.a rfl<|WL.nil (hK3 _ _ ?_);clear hK3;refine CW.block ?_;refine CW.loop (X:=Nat) (fun x=>[(0,.slice A m c),(3,.pointer (some ⟨g3,0,none⟩)),(5,.int .i64 (x:Int))]) (fun x w0=>x≤m∧(∀j,j<x→(bz (aQ l))[j]? ≠some d)∧Ext w w0∧aK w0 g3 42 (aN d)) (fun x=>m-x) 0 Fr.ok ⟨Nat.zero_le _,(fun j h=>by omega),hE,hB3⟩ ?_;intro x w2 hl2;obtain⟨hxm,hno,hE,hB3⟩:=hl2;refine CW.seq fun K4 hK4=>CW.sr fun K5 hK5=>WL.m rfl<|WL.m rfl<|WL.v (Y.aq underlying38 rfl)<|WL.v (Y.lss rfl rfl)<|WL.nil (hK5 _ _ ?_);clear hK5;refine bp ?_ ?_<;>intro ht6
 ·refine CW.skip ?_;refine hK4 _ _ ?_;clear hK4;refine CW.seq fun K7 hK7=>?_;refine CW.block<|CW.seq fun K8 hK8=>?_;obtain⟨y,hy⟩:∃y,l[x]? =some y:=⟨_,List.getElem?_eq_getElem ai⟩;obtain⟨a,rfl,hma⟩:=hlx _ _ hy;have hyi:(bz (aQ l))[x]? =some y.n.id:=by simp [hy]
  refine CW.quiet (fun wq=>Ext w2 wq) aG aG aE.drew<|QL.m rfl<|QL.m rfl<|QL.v (fun wq hq=>Y.af underlying38 rfl rfl cc ai)<|QL.v (fun wq hq=>Y.fieldAddr dX rfl)<|QL.v (fun wq hq=>Y.load underlying42 rfl ((hma.ext hE).ext hq).nC (aj _) rfl)<|QL.v (fun wq hq=>Y.load underlying42 rfl (hB3.ext hq).mem (aj _) rfl)<|QL.v (fun wq hq=>Y.dD rfl rfl)<|QL.nil fun w3 hx3=>?_;have hz3:=hx3.size;have hE:=hE.ae hx3;have hB3:=hB3.ext hx3;refine hK8 _ _ ?_;clear hK8;refine bp ?_ ?_<;>intro ht9
  ·refine CW.sr fun K10 hK10=>WL.m rfl<|WL.a rfl<|WL.nil (hK10 _ _ ?_);clear hK10;refine CW.ret ⟨_,rfl,?_⟩;exact⟨by rw [o8 (by rw [←ht9];exact hyi) hno],hE⟩
  refine CW.skip ?_;refine hK7 _ _ ?_;clear hK7;refine CW.region<|WL.m rfl<|WL.v (Y.add rfl rfl bB)<|WL.a rfl<|WL.nil ?_;refine⟨x+1,by show m-(x+1)<m-x;omega,Fr.ok,by show x+1≤m;omega,?_,hE,hB3⟩;intro j hj hje;by_cases e:j=x
  ·subst e;rw [hyi]at hje;cases hje;exact ht9 rfl
  ·exact hno j ai hje
 refine CW.exit ?_;refine hK2 _ _ ?_;clear hK2;refine CW.sr fun K11 hK11=>WL.a rfl<|WL.nil (hK11 _ _ ?_);clear hK11;refine CW.ret ⟨_,rfl,?_⟩;refine⟨?_,hE⟩;have hn:d∉bz (aQ l):=fun h=>by
  obtain⟨j,hj⟩:=List.mem_iff_getElem?.1 h;have hlt:=(List.getElem?_eq_some_iff.1 hj).1;simp only [List.length_map]at hlt;exact hno j ai hj
 rw [gw,if_neg hn]
set_option maxHeartbeats 1000000 in
theorem x4(u:Value)(l:List gj)(k:Nat)(y:gj)(w:World)(hl:oR w u l)(hk:l[k]? =some y):Calls prog 88 #[u,.int .i64 (k:Int)] w (cB fun v w'=>v= .int .i64 (dx (bz ((aQ l).take k)) y.n)∧Ext w w'):=by
 have hl0:=hl;obtain⟨⟨A,m,c,rfl,hlm,hmc,hcm,hlx⟩,hps⟩:=hl;unfold maxLen at hcm;obtain⟨⟨id,ps⟩,Ay,cy⟩:=y;obtain⟨a,rfl,hma⟩:=hlx _ _ hk;have hpy:=hps _ (List.mem_of_getElem? hk);have hpy0:=hpy;dsimp only [gj.pv]at hpy hpy0;obtain⟨_,_,_,he,hpl,hcy,hcy2,_⟩:=hpy;cases he
 unfold maxLen at hcy2;have hkm:k<m:=by have:=(List.getElem?_eq_some_iff.1 hk).1;omega
 have htk:bz (aQ (l.take k))=bz ((aQ l).take k):=by simp [bz,aQ,List.map_take]
 dsimp only;refine ar 58 [4] [(0,.slice (some a) m c),(1,.int .i64 (k:Int))] func88 rfl rfl rfl aL cz ?_;have hE:Ext w w:=aE.refl;refine CW.sr fun K1 hK1=>WL.a rfl<|WL.nil (hK1 _ _ ?_);clear hK1;refine CW.sr fun K2 hK2=>WL.m rfl<|WL.m rfl<|WL.v (Y.af underlying38 rfl rfl cc ai)<|WL.v (Y.fieldAddr dW rfl)<|WL.v (Y.ah underlying25 rfl hma.node1 rfl)<|WL.a rfl<|WL.nil (hK2 _ _ ?_);clear hK2;refine CW.seq fun K3 hK3=>CW.sr fun K4 hK4=>WL.m rfl<|WL.v (Y.aq underlying25 rfl)<|WL.v (Y.gtr rfl rfl)<|WL.nil (hK4 _ _ ?_);clear hK4;refine bp ?_ ?_<;>intro ht5
 ·refine CW.sr fun K6 hK6=>WL.a rfl<|WL.nil (hK6 _ _ ?_);clear hK6;refine CW.ret ⟨_,rfl,?_⟩;exact⟨by rw [dx,if_pos (by show 8<ps.length;omega)],hE⟩
 refine CW.skip ?_;refine hK3 _ _ ?_;clear hK3;refine CW.seq fun K7 hK7=>CW.sr fun K8 hK8=>WL.a rfl<|WL.nil (hK8 _ _ ?_);clear hK8;refine CW.block ?_;refine CW.loop (X:=Nat) (fun x=>[(0,.slice (some a) m c),(1,.int .i64 (k:Int)),(5,.slice Ay ps.length cy),(6,.int .i64 (x:Int))]) (fun x w0=>1≤x∧(x≤ps.length∨x=1)∧(∀i a b,i+1<x→ps[i]? =some a→ps[i+1]? =some b→bX a b=true)∧Ext w w0) (fun x=>ps.length-x) 1 Fr.ok ⟨Nat.le_refl _,.inr rfl,(fun i a b h=>by omega),hE⟩ ?_;intro x w1 hl1;obtain⟨hx1,hxl,hris,hE⟩:=hl1;refine CW.seq fun K9 hK9=>CW.sr fun K10 hK10=>WL.m rfl<|WL.m rfl<|WL.v (Y.aq underlying25 rfl)<|WL.v (Y.lss rfl rfl)<|WL.nil (hK10 _ _ ?_);clear hK10;refine bp ?_ ?_<;>intro ht11
 ·refine CW.skip ?_;refine hK9 _ _ ?_;clear hK9;refine CW.seq fun K12 hK12=>?_;refine CW.block<|CW.seq fun K13 hK13=>CW.quiet (fun wq=>Ext w1 wq) aG aG aE.drew ?_;obtain⟨p,hp⟩:∃p,ps[x]? =some p:=⟨_,List.getElem?_eq_getElem ai⟩;obtain⟨q,hq0⟩:∃q,ps[x-1]? =some q:=⟨_,List.getElem?_eq_getElem ai⟩;obtain⟨b,rfl,hmp⟩:=hpy0.at hp;obtain⟨b2,hb2,hmq⟩:=hpy0.at hq0;cases hb2
  refine QL.m rfl<|QL.m rfl<|QL.v (fun wq hq=>Y.Jp (q:=1) rfl rfl ai ai)<|QL.v (fun wq hq=>Y.af underlying25 rfl rfl aJ ai)<|QL.v (fun wq hq=>Y.load underlying42 rfl ((hmq.ext hE).ext hq) (aj _) rfl)<|QL.m rfl<|QL.m rfl<|QL.v (fun wq hq=>Y.af underlying25 rfl rfl aJ ai)<|QL.v (fun wq hq=>Y.load underlying42 rfl ((hmp.ext hE).ext hq) (aj _) rfl)<|QL.call func89 rfl rfl rfl (fun wq hq=>cA (ni _ _ _) hq) aL<|QL.v (fun wq hq=>Y.not rfl)<|QL.nil fun w2 hx2=>?_;have hz2:=hx2.size;have hE:=hE.ae hx2;refine hK13 _ _ ?_;clear hK13;refine bp ?_ ?_<;>intro ht14
  ·refine CW.sr fun K15 hK15=>WL.a rfl<|WL.nil (hK15 _ _ ?_);clear hK15;refine CW.ret ⟨_,rfl,?_⟩;exact⟨by rw [dx,if_neg (by show¬8<ps.length;omega),if_pos (sJ hq0 (by rw [Nat.sub_add_cancel ai];exact hp) (by first|assumption|simp_all))],hE⟩
  refine CW.skip ?_;refine hK12 _ _ ?_;clear hK12;refine CW.region<|WL.m rfl<|WL.v (Y.add rfl rfl bB)<|WL.a rfl<|WL.nil ?_;refine⟨x+1,by show ps.length-(x+1)<ps.length-x;omega,Fr.ok,by omega,.inl (by show x+1≤ps.length;omega),?_,hE⟩;intro i a2 b2 hi h1 h2;by_cases e:i+1<x
  ·exact hris i a2 b2 e h1 h2
  ·have e2:i=x-1:=by omega
   subst e2;rw [Nat.sub_add_cancel ai,hp]at h2;rw [hq0]at h1;cases h1;cases h2
   first|assumption|simp_all
 refine CW.exit ?_;refine hK7 _ _ ?_;clear hK7;refine CW.seq fun K16 hK16=>CW.seq fun K17 hK17=>CW.quiet (fun wq=>Ext w1 wq) aG aG aE.drew ?_;have hrisT:mP ps=true:=pf fun i a b h1 h2=>hris i a b (by have:=(List.getElem?_eq_some_iff.1 h2).1;omega) h1 h2;refine QL.m rfl<|QL.m rfl<|QL.v (fun wq hq=>Y.mD underlying38 rfl rfl cc rfl ai)<|QL.m rfl<|QL.m rfl<|QL.v (fun wq hq=>Y.af underlying38 rfl rfl cc ai)<|QL.v (fun wq hq=>Y.fieldAddr dX rfl)<|QL.v (fun wq hq=>Y.load underlying42 rfl ((hma.ext hE).ext hq).nC (aj _) rfl)<|QL.call func63 rfl rfl rfl (fun wq hq=>cA (lB _ _ id _ (((oR.take hl0 ai).ext hE).ext hq)) hq) aL<|QL.v (fun wq hq=>Y.geq rfl rfl)<|QL.nil fun w3 hx3=>?_;have hz3:=hx3.size;have hE:=hE.ae hx3;refine hK17 _ _ ?_;clear hK17;refine bp ?_ ?_<;>intro ht18
 ·refine CW.sr fun K19 hK19=>WL.a rfl<|WL.nil (hK19 _ _ ?_);clear hK19;refine CW.ret ⟨_,rfl,?_⟩;have h9:0≤gw (bz (aQ (l.take k))) id:=by assumption
  rw [htk]at h9;exact⟨by rw [dx,if_neg (by show¬8<ps.length;omega),if_neg (by show¬mP ps=false;rw [hrisT];decide),if_pos (Decidable.not_not.1 fun h=>by have h8:gw (bz ((aQ l).take k)) id<0:=jV.2 h;omega)],hE⟩
 refine CW.skip ?_;refine hK16 _ _ ?_;clear hK16;refine CW.seq fun K20 hK20=>CW.sr fun K21 hK21=>WL.a rfl<|WL.nil (hK21 _ _ ?_);clear hK21;refine CW.block ?_;refine CW.loop (X:=Nat) (fun x=>[(0,.slice (some a) m c),(1,.int .i64 (k:Int)),(5,.slice Ay ps.length cy),(7,.int .i64 (x:Int))]) (fun x w0=>x≤ps.length∧(∀i p,i<x→ps[i]? =some p→p∈bz ((aQ l).take k))∧Ext w w0) (fun x=>ps.length-x) 0 Fr.ok ⟨Nat.zero_le _,(fun i a h=>by omega),hE⟩ ?_;intro x w4 hl4;have hnid:¬id∈bz ((aQ l).take k):=by
  have h9:¬0≤gw (bz (aQ (l.take k))) id:=by assumption
  rw [htk]at h9;exact jV.1 ai
 obtain⟨hxl,hin,hE⟩:=hl4;refine CW.seq fun K22 hK22=>CW.sr fun K23 hK23=>WL.m rfl<|WL.m rfl<|WL.v (Y.aq underlying25 rfl)<|WL.v (Y.lss rfl rfl)<|WL.nil (hK23 _ _ ?_);clear hK23;refine bp ?_ ?_<;>intro ht24
 ·refine CW.skip ?_;refine hK22 _ _ ?_;clear hK22;refine CW.seq fun K25 hK25=>?_;refine CW.block<|CW.seq fun K26 hK26=>CW.quiet (fun wq=>Ext w4 wq) aG aG aE.drew ?_;obtain⟨p,hp⟩:∃p,ps[x]? =some p:=⟨_,List.getElem?_eq_getElem ai⟩;obtain⟨b,rfl,hmp⟩:=hpy0.at hp;refine QL.m rfl<|QL.m rfl<|QL.v (fun wq hq=>Y.mD underlying38 rfl rfl cc rfl ai)<|QL.m rfl<|QL.m rfl<|QL.v (fun wq hq=>Y.af underlying25 rfl rfl aJ ai)<|QL.v (fun wq hq=>Y.load underlying42 rfl ((hmp.ext hE).ext hq) (aj _) rfl)<|QL.call func63 rfl rfl rfl (fun wq hq=>cA (lB _ _ p _ (((oR.take hl0 ai).ext hE).ext hq)) hq) aL<|QL.v (fun wq hq=>Y.lss rfl rfl)<|QL.nil fun w5 hx5=>?_;have hz5:=hx5.size;have hE:=hE.ae hx5;refine hK26 _ _ ?_;clear hK26;refine bp ?_ ?_<;>intro ht27
  ·refine CW.sr fun K28 hK28=>WL.a rfl<|WL.nil (hK28 _ _ ?_);clear hK28;refine CW.ret ⟨_,rfl,?_⟩;have h9:gw (bz (aQ (l.take k))) p<0:=by assumption
   rw [htk]at h9;exact⟨by rw [dx,if_neg (by show¬8<ps.length;omega),if_neg (by show¬mP ps=false;rw [hrisT];decide),if_neg hnid,if_pos ⟨p,List.mem_of_getElem? hp,jV.1 h9⟩],hE⟩
  refine CW.skip ?_;refine hK25 _ _ ?_;clear hK25;refine CW.region<|WL.m rfl<|WL.v (Y.add rfl rfl bB)<|WL.a rfl<|WL.nil ?_;refine⟨x+1,by show ps.length-(x+1)<ps.length-x;omega,Fr.ok,by show x+1≤ps.length;omega,?_,hE⟩;intro i a2 hi h1;by_cases e:i<x
  ·exact hin i a2 e h1
  ·have e2:i=x:=by omega
   subst e2;rw [hp]at h1;cases h1
   have h9:¬gw (bz (aQ (l.take k))) p<0:=by assumption
   rw [htk]at h9;exact Decidable.not_not.1 fun h=>h9 (jV.2 h)
 refine CW.exit ?_;refine hK20 _ _ ?_;clear hK20;refine CW.sr fun K29 hK29=>WL.a rfl<|WL.nil (hK29 _ _ ?_);clear hK29;refine CW.ret ⟨_,rfl,?_⟩;exact⟨by rw [dx,if_neg (by show¬8<ps.length;omega),if_neg (by show¬mP ps=false;rw [hrisT];decide),if_neg hnid,if_neg (by
  rintro⟨p,hp,hn⟩;obtain⟨i,hi⟩:=List.mem_iff_getElem?.1 hp;have hi:ps[i]? =some p:=hi;exact hn (hin i p (by have:=(List.getElem?_eq_some_iff.1 hi).1;omega) hi))],hE⟩
theorem zy(u:Value)(l:List gj)(w:World)(hl:oR w u l):Calls prog 62 #[u] w (cB fun v w'=>v= .tuple #[.int .i64 ((bL (aQ l)).1:Int),.int .i64 (bL (aQ l)).2]∧Ext w w'):=by
 have hl0:=hl;obtain⟨⟨A,m,c,rfl,hlm,hmc,hcm,hlx⟩,hps⟩:=hl;unfold maxLen at hcm;have hln:(aQ l).length=m:=by simpa using hlm
 refine ar 22 [2,3] [(0,.slice A m c)] func62 rfl rfl rfl aL du ?_;have hE:Ext w w:=aE.refl;refine CW.sr fun K1 hK1=>WL.a rfl<|WL.a rfl<|WL.nil (hK1 _ _ ?_);clear hK1;refine CW.seq fun K2 hK2=>CW.sr fun K3 hK3=>WL.m rfl<|WL.v (Y.aq underlying38 rfl)<|WL.v (Y.gtr rfl rfl)<|WL.nil (hK3 _ _ ?_);clear hK3;refine bp ?_ ?_<;>intro ht4
 ·refine CW.sr fun K5 hK5=>WL.a rfl<|WL.a rfl<|WL.nil (hK5 _ _ ?_);clear hK5;refine CW.ret ⟨_,rfl,?_⟩;have he:bL (aQ l)=(0,4):=by rw [bL,if_pos ai]
  exact⟨by rw [he];rfl,hE⟩
 refine CW.skip ?_;refine hK2 _ _ ?_;clear hK2;refine CW.seq fun K6 hK6=>CW.sr fun K7 hK7=>WL.a rfl<|WL.nil (hK7 _ _ ?_);clear hK7;refine CW.block ?_;refine CW.loop (X:=Nat) (fun x=>[(0,.slice A m c),(4,.int .i64 (x:Int))]) (fun x w0=>x≤m∧fQ (aQ l) [] 0=fQ ((aQ l).drop x) (bz ((aQ l).take x)) x∧Ext w w0) (fun x=>m-x) 0 Fr.ok ⟨Nat.zero_le _,by simp,hE⟩ ?_;intro x w1 hl1;have hre:bL (aQ l)=fQ (aQ l) [] 0:=by rw [bL,if_neg ai]
 obtain⟨hxm,hfw,hE⟩:=hl1;refine CW.seq fun K8 hK8=>CW.sr fun K9 hK9=>WL.m rfl<|WL.m rfl<|WL.v (Y.aq underlying38 rfl)<|WL.v (Y.lss rfl rfl)<|WL.nil (hK9 _ _ ?_);clear hK9;refine bp ?_ ?_<;>intro ht10
 ·refine CW.skip ?_;refine hK8 _ _ ?_;clear hK8;refine CW.seq fun K11 hK11=>?_;refine CW.block<|CW.sr fun K12 hK12=>?_;obtain⟨y,hy⟩:∃y,l[x]? =some y:=⟨_,List.getElem?_eq_getElem ai⟩;have hyn:(aQ l)[x]? =some y.n:=by simp [hy]
  refine WL.m rfl<|WL.m rfl<|WL.call func88 rfl rfl rfl (x4 _ l x y _ (hl0.ext hE) hy) aL ?_;rintro v w2 ⟨rfl,hx2⟩;have hz2:=hx2.size;have hE:=hE.ae hx2;refine WL.a rfl<|WL.nil (hK12 _ _ ?_);clear hK12;refine CW.sr fun K13 hK13=>WL.m rfl<|WL.v (Y.neq rfl rfl)<|WL.nil (hK13 _ _ ?_);clear hK13;refine bp ?_ ?_<;>intro ht14
  ·refine CW.sr fun K15 hK15=>WL.m rfl<|WL.m rfl<|WL.a rfl<|WL.a rfl<|WL.nil (hK15 _ _ ?_);clear hK15;refine CW.ret ⟨_,rfl,?_⟩;exact⟨by rw [hre,hfw,mQ hyn (by assumption)],hE⟩
  refine CW.skip ?_;refine hK11 _ _ ?_;clear hK11;refine CW.region<|WL.m rfl<|WL.v (Y.add rfl rfl bB)<|WL.a rfl<|WL.nil ?_;refine⟨x+1,by show m-(x+1)<m-x;omega,Fr.ok,by show x+1≤m;omega,hfw.trans (qD hyn (Decidable.not_not.1 (by assumption))),hE⟩
 refine CW.exit ?_;refine hK6 _ _ ?_;clear hK6;refine CW.sr fun K16 hK16=>WL.a rfl<|WL.a rfl<|WL.nil (hK16 _ _ ?_);clear hK16;refine CW.ret ⟨_,rfl,?_⟩;have e1:(aQ l).drop x=[]:=List.drop_of_length_le ai;exact⟨by rw [hre,hfw,e1];rfl,hE⟩
theorem rS(u v0:Value)(l:List gj)(ids:List aD)(w:World)(hl:oR w u l)(hd:Sl w aN 32 v0 ids):Calls prog 34 #[u,v0] w (cB fun v w'=>v= .int .i64 (eh (aQ l) ids)∧Ext w w'):=by
 have hl0:=hl;obtain⟨⟨A,m,c,rfl,hlm,hmc,hcm,hlx⟩,hps⟩:=hl;unfold maxLen at hcm;have hd0:=hd;obtain⟨A1,m1,c1,rfl,hdm,hdc,hdx,hdg⟩:=hd;unfold maxLen at hdx;refine ar 29 [4] [(0,.slice A m c),(1,.slice A1 m1 c1)] func34 rfl rfl rfl aL cz ?_;have hE:Ext w w:=aE.refl;refine CW.sr fun K1 hK1=>WL.a rfl<|WL.nil (hK1 _ _ ?_);clear hK1;refine CW.sr fun K2 hK2=>WL.m rfl<|WL.call func62 rfl rfl rfl (zy _ l _ hl0) aL ?_;rintro v w1 ⟨rfl,hx1⟩;have hz1:=hx1.size;have hE:=hE.ae hx1;refine WL.m rfl<|WL.v (Y.extract rfl rfl)<|WL.v (Y.extract rfl rfl)<|WL.a rfl<|WL.a rfl<|WL.nil (hK2 _ _ ?_);clear hK2;refine CW.seq fun K3 hK3=>CW.sr fun K4 hK4=>WL.m rfl<|WL.v (Y.neq rfl rfl)<|WL.nil (hK4 _ _ ?_);clear hK4;refine bp ?_ ?_<;>intro ht5
 ·refine CW.sr fun K6 hK6=>WL.m rfl<|WL.a rfl<|WL.nil (hK6 _ _ ?_);clear hK6;refine CW.ret ⟨_,rfl,?_⟩;exact⟨by rw [eh,if_pos (by assumption)];rfl,hE⟩
 refine CW.skip ?_;refine hK3 _ _ ?_;clear hK3;refine CW.seq fun K7 hK7=>CW.sr fun K8 hK8=>WL.a rfl<|WL.nil (hK8 _ _ ?_);clear hK8;refine CW.block ?_;refine CW.loop (X:=Nat) (fun x=>[(0,.slice A m c),(1,.slice A1 m1 c1),(7,.int .i64 (x:Int))]) (fun x w0=>x≤m1∧(∀i d,i<x→ids[i]? =some d→d∈bz (aQ l))∧Ext w w0) (fun x=>m1-x) 0 Fr.ok ⟨Nat.zero_le _,(fun i a h=>by omega),hE⟩ ?_;intro x w2 hl2;obtain⟨hxl,hin,hE⟩:=hl2;refine CW.seq fun K9 hK9=>CW.sr fun K10 hK10=>WL.m rfl<|WL.m rfl<|WL.v (Y.aq underlying25 rfl)<|WL.v (Y.lss rfl rfl)<|WL.nil (hK10 _ _ ?_);clear hK10;refine bp ?_ ?_<;>intro ht11
 ·refine CW.skip ?_;refine hK9 _ _ ?_;clear hK9;refine CW.seq fun K12 hK12=>?_;refine CW.block<|CW.sr fun K13 hK13=>?_;obtain⟨d,hd⟩:∃d,ids[x]? =some d:=⟨_,List.getElem?_eq_getElem ai⟩;obtain⟨a,rfl,hma⟩:=hdg _ _ hd;refine WL.m rfl<|WL.m rfl<|WL.m rfl<|WL.v (Y.af underlying25 rfl rfl aJ ai)<|WL.v (Y.load underlying42 rfl (hma.ext hE) (aj _) rfl)<|WL.call func63 rfl rfl rfl (lB _ l d _ (hl0.ext hE)) aL ?_;rintro v w3 ⟨rfl,hx3⟩;have hz3:=hx3.size;have hE:=hE.ae hx3;refine WL.v (Y.lss rfl rfl)<|WL.nil (hK13 _ _ ?_);clear hK13;refine bp ?_ ?_<;>intro ht14
  ·refine CW.sr fun K15 hK15=>WL.a rfl<|WL.nil (hK15 _ _ ?_);clear hK15;refine CW.ret ⟨_,rfl,?_⟩;exact⟨by rw [eh,if_neg (by assumption),if_pos ⟨d,List.mem_of_getElem? hd,jV.1 (by assumption)⟩],hE⟩
  refine CW.skip ?_;refine hK12 _ _ ?_;clear hK12;refine CW.region<|WL.m rfl<|WL.v (Y.add rfl rfl bB)<|WL.a rfl<|WL.nil ?_;refine⟨x+1,by show m1-(x+1)<m1-x;omega,Fr.ok,by show x+1≤m1;omega,?_,hE⟩;intro i a2 hi h1;by_cases e:i<x
  ·exact hin i a2 e h1
  ·have e2:i=x:=by omega
   subst e2;rw [hd]at h1;cases h1
   have h9:¬gw (bz (aQ l)) d<0:=by assumption
   exact Decidable.not_not.1 fun h=>h9 (jV.2 h)
 refine CW.exit ?_;refine hK7 _ _ ?_;clear hK7;refine CW.sr fun K16 hK16=>WL.a rfl<|WL.nil (hK16 _ _ ?_);clear hK16;refine CW.ret ⟨_,rfl,?_⟩;exact⟨by rw [eh,if_neg (by assumption),if_neg (by
  rintro⟨d,hd,hn⟩;obtain⟨i,hi⟩:=List.mem_iff_getElem?.1 hd;exact hn (hin i d (by have:=(List.getElem?_eq_some_iff.1 hi).1;omega) hi))],hE⟩
end Go.Proofs.YtmehkigmnpjcjaaGreatDoor
namespace Go.Fw
open Go.RowKit
def b8(S:List Bool):List Value:=S.map Value.bool
theorem wi(S:List Bool):(b8 S).length=S.length:=by simp [b8]
theorem xL{S:List Bool}{i:Nat}{c:Bool}(v:Bool)(h:S[i]? =some c):b8 S=b8 (S.take i)++[.bool c]++b8 (S.drop (i+1))∧b8 (S.set i v)=b8 (S.take i)++[.bool v]++b8 (S.drop (i+1)):=by
 obtain⟨hlt,hc⟩:=List.getElem?_eq_some_iff.1 h;have e1:S=S.take i++[c]++S.drop (i+1):=by
  conv=>lhs;rw [←List.take_append_drop i S,List.drop_eq_getElem_cons hlt,hc]
  simp
 have e2:S.set i v=S.take i++[v]++S.drop (i+1):=by
  rw [List.set_eq_take_append_cons_drop,if_pos hlt];simp
 constructor
 ·conv=>lhs;rw [e1]
  simp [b8]
 ·rw [e2];simp [b8]
section
variable {P:Program} {n:NN} {Φ:Exit→Fr→World→Prop} {fr:Fr} {w:World} {ty:TypeId} {e:TypeId} {b:Nat} {S:List Bool}
theorem aK.mh(h:aK w b e (b8 S)){i:Nat}{v:Bool}(hi:S[i]? =some v):w.cell? ((⟨b,0,none⟩:Addr).add (i*1))=some (.bool v):=by
 rw [Nat.mul_one];exact h.mem.cell i (by rw [b8,List.getElem?_map,hi];rfl)
theorem WL.lU{ops:Array Oper}{rest:List Oper}{t:TypeId}{x y:Operand}{pos:String}{aft:Array Edge}{v c:Bool}{i:Nat}{A:Addr}
  (hx:ev fr x=some (.pointer (some A))) (hA:A=(⟨b,0,none⟩:Addr).add (i*1)) (hy:ev fr y=some (.bool v)) (hS:(P.info? t).map (·.size)=some 1) (hB:aK w b e (b8 S)) (hi:S[i]? =some c)
  (h:∀w',aE (·=b) w w'→aK w' b e (b8 (S.set i v))→WL P ops n Φ rest fr w'):WL P ops n Φ (⟨none,.store t x y,ty,pos,aft,none⟩::rest) fr w:=by
 obtain⟨e1,e2⟩:=xL v hi;have hlt:=(List.getElem?_eq_some_iff.1 hi).1;refine WL.store (g:=b) (pre:=b8 (S.take i)) (old:=[.bool c]) (post:=b8 (S.drop (i+1))) (new:=[.bool v]) hx ?_ hy rfl hS (e1▸hB) rfl (dd rfl) fun w' hc hB'=>?_
 ·rw [hA,Nat.mul_one,add_zero',wi,List.length_take,Nat.min_eq_left ai]
 ·exact h w' hc (e2▸hB')
theorem St.tw{t:TypeId}{x y:Operand}{k k':IntKind}{m:Nat}{i:TypeInfo}(hT:P.underlying t=some (.slice e))(hi:P.info? e=some i)(hz:i.zero=some (.bool false))(h1:i.size=1)(hb:i.bytes=1)
  (hx:ev fr x=some (.int k (m:Int))) (hy:ev fr y=some (.int k' (m:Int))) (hm:m≤281474976710656):
  St P n fr (.makeSlice t x y) ty w (fun v w'=>∃g,v= .slice (some ⟨g,0,none⟩) m m∧w.heap.size≤g∧aK w' g e (b8 (List.replicate m false))∧Ext w w'):=fun a o' ho hty ha=>by
 have hr:=run_make (P:=P) w t e i (.bool false) hT hi hz k k' (m:Int) (m:Int) ai (Int.le_refl _) (by rw [hb];omega) ai;simp only [Int.toNat_natCast,h1,Nat.mul_one]at hr;refine⟨_,w.alloc (.cells (madeCells (Value.bool false).cells m) e),?_,w.heap.size,rfl,Nat.le_refl _,?_,aE.alloc _⟩
 ·simp only [execOp,ho,ha.ev hx,ha.ev hy,Sem.run_bind];rw [hr];rfl
 ·have e0:madeCells (Value.bool false).cells m=(b8 (List.replicate m false)).toArray:=by
   unfold madeCells;apply Array.ext_getElem?;intro j;simp only [b8,List.map_replicate,List.getElem?_toArray,Array.getElem?_map,List.getElem?_replicate];have hc:(Value.bool false).cells= #[.bool false]:=rfl;rw [hc];by_cases hj:j<m
   ·simp [hj,Array.getElem?_range,Nat.mod_one]
   ·simp [hj,Array.getElem?_range]
  rw [e0];exact aK.new w e _
theorem WL.kp{ops:Array Oper}{rest:List Oper}{dst:Option Nat}{t:Nat}{f:FuncId}{args:List Operand}{tys:Array TypeId}{pos:String}{aft:Array Edge}{vs cap:List Value}{fn:Func}
  {R:Value→World→Prop} (ht:fr.get t=some (.func (.func f) #[] cap.toArray))
  (hf:P.funcs[f]? =some fn) (hb:fn.body.isNone=false) (hn:(fn.name== "runtime.NumGoroutine")=false)
  (he:pY fr args=some vs) (hC:Calls P f (vs++cap).toArray w (cB R)) (hd:∀d,dst=some d→d<n.1)
  (h:∀v w',R v w'→WL P ops n Φ rest (match dst with|some d=>(d,v)::fr|none=>fr) w'):
  WL P ops n Φ (⟨dst,.call {callee:= .value (.tmp t),args:=args.toArray,argTypes:=tys},ty,pos,aft,none⟩::rest) fr w:=fun a ha=>
 wpList_plain rfl fun K hK=>by
  have hrun:(execOp a.eval ⟨dst,.call {callee:= .value (.tmp t),args:=args.toArray,argTypes:=tys},ty,pos,aft,none⟩).run P w= .ok (.enter f (vs++cap).toArray) w:=by
   have h1:=ha.pY he;have h2:a.eval (.tmp t)= .func (.func f) #[] cap.toArray:=ha.ev (x:= .tmp t) ht;simp [execOp,resolve,invoke,Deferred.ofValue,h2,h1,dT hf hb hn]
  unfold Oper.wp;rw [hrun];refine hC.mono fun e w' hr=>?_;cases e with
  |returned v=>
   refine hK _ _ (h v w' hr _ ?_);cases dst with
   |none=>exact ha
   |some d=>exact ha.put (hd d rfl) v
  |panicked ch=>exact hr.elim
  |outgrown=>exact hr.elim
end
end Go.Fw
