/- Parts of a proof: what its last text leans on. No condition. -/
import Derived.Test.YtmehkigmnpjcjaaGreatDoorK11
set_option linter.unusedSimpArgs false
set_option linter.unusedVariables false
namespace Go.Fw
open Go.RowKit
theorem Sl.cut{α:Type}{w:World}{enc:α→List Value}{k:Nat}{a:Addr}{m c i j:Nat}{xs:List α}(h:Sl w enc k (.slice (some a) m c) xs)(hij:i≤j)(hj:j≤m):Sl w enc k (.slice (some (if c=i then a else a.add (i*k))) (j-i) (c-i)) ((xs.drop i).take (j-i)):=by
 obtain⟨A,m',c',he,hl,hmc,hcm,hx⟩:=h;cases he
 refine⟨_,_,_,rfl,by simp;omega,by omega,by omega,fun q x hq=>⟨_,rfl,?_⟩⟩;rw [List.getElem?_take]at hq;split at hq
 ·rw [List.getElem?_drop]at hq;have hlt:=(List.getElem?_eq_some_iff.1 hq).1;obtain⟨a',ha,hm⟩:=hx _ _ hq;cases ha
  rw [if_neg ai,add_add,←Nat.add_mul];exact hm
 ·cases hq
end Go.Fw
namespace Go.Proofs.YtmehkigmnpjcjaaGreatDoor
open Go.RowKit Go.Fw Go.Pl Go.Sort Go.Proofs.Tryz
theorem Az(u:Value)(l:List aD)(d:aD)(w:World)(hd:Sl w aN 32 u l):Calls prog 38 #[u,cU d] w (cB fun v w'=>v= .bool (decide (d∈l))∧Ext w w'):=by
 have hd0:=hd;obtain⟨A1,c1,rfl,hdc,hdx⟩:=hd.lens;unfold maxLen at hdx;refine ar 18 [4] [(0,.slice A1 l.length c1),(1,cU d)] func38 rfl rfl rfl aL cz ?_;have hE:Ext w w:=aE.refl;refine CW.sr fun K1 hK1=>WL.box rfl rfl aw fun g3 w1 hx1 hg3 hB3=>?_;have hlt3:=hB3.lt;have hz1:=hx1.size;have hE:=hE.ae hx1;refine WL.a rfl<|WL.nil (hK1 _ _ ?_);clear hK1;refine CW.seq fun K2 hK2=>CW.sr fun K3 hK3=>WL.a rfl<|WL.nil (hK3 _ _ ?_);clear hK3;refine CW.block ?_;refine CW.loop (X:=Nat) (fun x=>[(0,.slice A1 l.length c1),(3,.pointer (some ⟨g3,0,none⟩)),(5,.int .i64 (x:Int))]) (fun x w0=>x≤l.length∧(∀y,y∈l.take x→y≠d)∧aK w0 g3 pX (aN d)∧Ext w w0) (fun x=>l.length-x) 0 Fr.ok ⟨Nat.zero_le _,(fun y hy=>by simp at hy),hB3,hE⟩ ?_;intro x w2 hl2;clear hE hB3;obtain⟨hxl,hno,hB3,hE⟩:=hl2;refine CW.seq fun K4 hK4=>CW.sr fun K5 hK5=>WL.m rfl<|WL.m rfl<|WL.v (Y.aq underlying25 rfl)<|WL.v (Y.lss rfl rfl)<|WL.nil (hK5 _ _ ?_);clear hK5;refine bp ?_ ?_<;>intro ht6
 ·refine CW.skip ?_;refine hK4 _ _ ?_;clear hK4;refine CW.seq fun K7 hK7=>?_;refine CW.block<|CW.seq fun K8 hK8=>?_;obtain⟨y,hy⟩:∃y,l[x]? =some y:=⟨_,List.getElem?_eq_getElem ai⟩;obtain⟨a,rfl,hma⟩:=hd0.at hy;refine CW.quiet (fun wq=>Ext w2 wq) aG aG aE.drew<|QL.m rfl<|QL.m rfl<|QL.v (fun wq hq=>Y.af underlying25 rfl rfl aJ ai)<|QL.v (fun wq hq=>Y.load underlying42 rfl (hma.ext (hE.ae hq)) (aj _) rfl)<|QL.v (fun wq hq=>Y.load underlying42 rfl (hB3.ext hq).mem (aj _) rfl)<|QL.v (fun wq hq=>Y.dD rfl rfl)<|QL.nil fun w3 hx3=>?_;have hz3:=hx3.size;have hE:=hE.ae hx3;have hB3:=hB3.ext hx3;refine hK8 _ _ ?_;clear hK8;refine bp ?_ ?_<;>intro ht9
  ·refine CW.sr fun K10 hK10=>WL.a rfl<|WL.nil (hK10 _ _ ?_);clear hK10;refine CW.ret ⟨_,rfl,?_⟩;have hyd:y=d:=by assumption
   exact⟨by rw [decide_eq_true (hyd▸List.mem_of_getElem? hy)],hE⟩
  refine CW.skip ?_;refine hK7 _ _ ?_;clear hK7;refine CW.region<|WL.m rfl<|WL.v (Y.add rfl rfl bB)<|WL.a rfl<|WL.nil ?_;refine⟨x+1,by show l.length-(x+1)<l.length-x;omega,Fr.ok,by show x+1≤l.length;omega,?_,hB3,hE⟩;intro z hz;rw [take_succ hy]at hz;rcases List.mem_append.1 hz with hz|hz
  ·exact hno z hz
  ·simp at hz;subst hz;assumption
 refine CW.exit ?_;refine hK2 _ _ ?_;clear hK2;refine CW.sr fun K11 hK11=>WL.a rfl<|WL.nil (hK11 _ _ ?_);clear hK11;refine CW.ret ⟨_,rfl,?_⟩;refine⟨?_,hE⟩;rw [List.take_of_length_le ai]at hno;rw [decide_eq_false fun h=>hno d h rfl]
set_option maxRecDepth 100000 in
set_option maxHeartbeats 2000000 in
theorem y8(u v0:Value)(l:List gj)(ids:List aD)(w:World)(hl:oR w u l)(hok:(bL (aQ l)).2=0)(hd:Sl w aN 32 v0 ids)(hin:∀d∈ids,d∈bz (aQ l))(hp:ids.length*32≤140737488351232):Calls prog 35 #[u,v0] w (cB fun v w'=>Own w' pX 32 v (cn (p6 (aQ l) (nz ids)))∧(∀k,v.ownBlock=some k→w.heap.size≤k)∧Ext w w'):=by
 have hl0:=hl;obtain⟨A,c,rfl,hmc,hcm⟩:=hl.sl.lens;unfold maxLen at hcm;have hd0:=hd;obtain⟨A1,c1,rfl,hdc,hdx⟩:=hd.lens;unfold maxLen at hdx;have hnl:(aQ l).length=l.length:=by simp
 have hln:=lT hok;obtain⟨bi,hbi,hbz,hbs,hbb⟩:=iS;refine ar 78 [4] [(0,.slice A l.length c),(1,.slice A1 ids.length c1)] func35 rfl rfl rfl aL cz ?_;have hE:Ext w w:=aE.refl;refine CW.sr fun K1 hK1=>WL.a rfl<|WL.nil (hK1 _ _ ?_);clear hK1;refine CW.sr fun K2 hK2=>WL.m rfl<|WL.call func64 rfl rfl rfl (s4 _ ids _ hd0 hp) aL ?_;rintro v13 w1 hR1;obtain⟨hO1,hf1,hx1⟩:=hR1;have hz1:=hx1.size;have hE:=hE.ae hx1;obtain⟨all,hall⟩:∃a,a=nz ids:=⟨_,rfl⟩;rw [←hall]at hO1⊢;have hup:Up all:=by rw [hall];exact yL _ _ List.Pairwise.nil
 have hai:∀d∈all,d∈bz (aQ l):=fun d h=>by
  rw [hall,nz,wv]at h;rcases h with h|h
  ·exact hin d h
  ·cases h
 have hal:all.length≤l.length:=by
  have:=pQ (hup.imp fun{a b} hab e=>by subst e;rw [jr]at hab;cases hab) hai;simpa using this
 obtain⟨B,mb,cb,rfl⟩:=hO1.lens;obtain⟨hlb,hmb,hcb⟩:=hO1.len ag aw;unfold maxLen at hcb;have hS:=hO1.sl ag aw;have hlt1:=hO1.lt;subst hlb;refine WL.a rfl<|WL.nil (hK2 _ _ ?_);clear hK2;refine CW.sr fun K3 hK3=>WL.m rfl<|WL.v (Y.aq underlying25 rfl)<|WL.st (St.tw underlying79 hbi hbz hbs hbb rfl rfl ai) aw fun v16 w2 hR2=>?_;obtain⟨ub,rfl,hub,hU,hx2⟩:=hR2;have hz2:=hx2.size;have hE:=hE.ae hx2;have hS:=hS.ext hx2;have hnb:∀k,(Value.slice B all.length cb).ownBlock=some k→k≠ub:=fun k hk=>by have:=hlt1 k hk;omega
 refine WL.a rfl<|WL.nil (hK3 _ _ ?_);clear hK3;refine CW.seq fun K4 hK4=>CW.sr fun K5 hK5=>WL.a rfl<|WL.nil (hK5 _ _ ?_);clear hK5;refine CW.block ?_;refine CW.loop (X:=Nat) (fun x=>[(0,.slice A l.length c),(5,.slice B all.length cb),(6,.slice (some ⟨ub,0,none⟩) all.length all.length),(7,.int .i64 (x:Int))]) (fun x w0=>x≤all.length∧aK w0 ub oC (b8 (yu (aQ l) all x))∧Sl w0 aN 32 (.slice B all.length cb) all∧Ext w w0∧w2.heap.size≤w0.heap.size) (fun x=>all.length-x) 0 Fr.ok ⟨Nat.zero_le _,by simpa [yu]using hU,hS,hE,Nat.le_refl _⟩ ?_;intro x w3 hl3;clear hE hU hS;obtain⟨k,rfl⟩:∃k,k=x:=⟨x,rfl⟩;obtain⟨hkl,hU,hS,hE,hz3⟩:=hl3;have hltu:=hU.lt;refine CW.seq fun K6 hK6=>CW.sr fun K7 hK7=>WL.m rfl<|WL.m rfl<|WL.v (Y.aq underlying25 rfl)<|WL.v (Y.lss rfl rfl)<|WL.nil (hK7 _ _ ?_);clear hK7;refine bp ?_ ?_<;>intro ht8
 ·refine CW.skip ?_;refine hK6 _ _ ?_;clear hK6;refine CW.seq fun K9 hK9=>?_;refine CW.block<|CW.seq fun K10 hK10=>?_;obtain⟨ak,hak⟩:∃d,all[k]? =some d:=⟨_,List.getElem?_eq_getElem ai⟩;obtain⟨aB,rfl,hma⟩:=hS.at hak;refine CW.region<|WL.m rfl<|WL.m rfl<|WL.m rfl<|WL.m rfl<|WL.v (Y.add rfl rfl bB)<|WL.v (Y.BU underlying25 rfl rfl rfl aJ rfl (show _=((k+1:Nat):Int)by omega) ai ai)<|WL.call func65 rfl rfl rfl (r6 _ _ l ((all.drop k).take 1) _ (hl0.ext hE) hok (by rw [show(all.drop k).take 1=(all.drop k).take (k+1-k)by rw [Nat.add_sub_cancel_left]];exact hS.cut ai ai) (fun d h=>hai d (List.mem_of_mem_drop (List.mem_of_mem_take h)))) aL ?_;rintro v29 w4 hR4;obtain⟨bm,rfl,hbm,hM,hx4⟩:=hR4;have hz4:=hx4.size;have hE:=hE.ae hx4;have hU:=hU.ext hx4;have hS:=hS.ext hx4;have hltm:=hM.lt;obtain⟨M,hM0⟩:∃M,M=fJ (aQ l) ((all.drop k).take 1):=⟨_,rfl⟩;have hMl:M.length=l.length:=by rw [hM0,iA,hnl]
  rw [←hM0]at hM;refine WL.a rfl<|WL.nil (hK10 _ _ ?_);clear hK10;refine CW.sr fun K11 hK11=>WL.a rfl<|WL.nil (hK11 _ _ ?_);clear hK11;refine CW.block ?_;refine CW.loop (X:=Nat) (fun x=>[(0,.slice A l.length c),(5,.slice (some aB) all.length cb),(6,.slice (some ⟨ub,0,none⟩) all.length all.length),(7,.int .i64 (k:Int)),(8,.slice (some ⟨bm,0,none⟩) l.length l.length),(9,.int .i64 (x:Int))]) (fun x w0=>x≤all.length∧aK w0 ub oC (b8 (wo (aQ l) all k (yu (aQ l) all k) x))∧aK w0 bm oC (b8 M)∧Sl w0 aN 32 (.slice (some aB) all.length cb) all∧Ext w w0∧w4.heap.size≤w0.heap.size) (fun x=>all.length-x) 0 Fr.ok ⟨Nat.zero_le _,hU,hM,hS,hE,Nat.le_refl _⟩ ?_;intro x w5 hl5;clear hE hU hM hS;obtain⟨hjl,hU,hM,hS,hE,hz5⟩:=hl5;refine CW.seq fun K12 hK12=>CW.sr fun K13 hK13=>WL.m rfl<|WL.m rfl<|WL.v (Y.aq underlying25 rfl)<|WL.v (Y.lss rfl rfl)<|WL.nil (hK13 _ _ ?_);clear hK13;refine bp ?_ ?_<;>intro ht14
  ·refine CW.skip ?_;refine hK12 _ _ ?_;clear hK12;refine CW.seq fun K15 hK15=>?_;refine CW.block ?_;obtain⟨d,hdx⟩:∃d,all[x]? =some d:=⟨_,List.getElem?_eq_getElem ai⟩;obtain⟨a2,ha2,hmd⟩:=hS.at hdx;cases ha2
   have hdi:=hai d (List.mem_of_getElem? hdx);have hix:=ic hdi;obtain⟨cm,hcm2⟩:∃c,M[jh (aQ l) d]? =some c:=⟨_,List.getElem?_eq_getElem ai⟩;have hUl:(wo (aQ l) all k (yu (aQ l) all k) x).length=all.length:=by rw [l5,lL]
   obtain⟨cu,hcu⟩:∃c,(wo (aQ l) all k (yu (aQ l) all k) x)[x]? =some c:=⟨_,List.getElem?_eq_getElem ai⟩;have hs:wo (aQ l) all k (yu (aQ l) all k) (x+1)=(wo (aQ l) all k (yu (aQ l) all k) x).set x (cu||(!decide (x=k)&&cm)):=by
    rw [wo,hcu,Im,hdx,←hM0,Option.getD_some,cK,Option.getD_some,hcm2];rfl
   refine CW.region<|WL.m rfl<|WL.m rfl<|WL.m rfl<|WL.m rfl<|WL.v (Y.af underlying79 rfl rfl cQ ai)<|WL.v (Y.ah underlying4 rfl (hU.mh hcu) rfl)<|WL.m rfl ?_;refine dO ?_ ?_<;>intro hg42
   ·refine WL.o rfl rfl<|WL.o rfl rfl<|WL.o rfl rfl<|WL.o rfl rfl<|WL.bD rfl rfl aw<|WL.bD rfl rfl aw<|WL.bD rfl rfl aw<|WL.bD rfl rfl aw<|WL.bD rfl rfl aw<|WL.bD rfl rfl aw<|WL.bD rfl rfl aw<|WL.bD rfl rfl aw<|WL.bD rfl rfl aw ?_;refine WL.o rfl rfl<|WL.v (Y.pick rfl rfl)<|WL.v (Y.af underlying79 rfl rfl cQ ai)<|WL.lU rfl rfl rfl eO hU hcu (fun w6 hc6 hB6_=>?_);have hz6:=hc6.size;have hE:=hE.step hc6 (fun k h=>by omega);refine WL.nil (hK15 _ _ ?_);clear hK15;refine CW.region<|WL.m rfl<|WL.v (Y.add rfl rfl bB)<|WL.a rfl<|WL.nil ?_;refine⟨x+1,by show all.length-(x+1)<all.length-x;omega,Fr.ok,by show x+1≤all.length;omega,?_,hM.aA hc6 cq,hS.aA hc6 (fun k hk h=>hnb k hk h),hE,by omega⟩;show aK _ _ _ (b8 (wo _ _ _ _ (x+1)));have e:(cu||(!decide (x=k)&&cm))=true:=by simp [hg42]
    rw [hs,e];exact hB6_
   ·refine WL.g rfl rfl (Y.move rfl)<|WL.g rfl rfl (Y.move rfl)<|WL.g rfl rfl (Y.neq rfl rfl)<|WL.g rfl rfl (Y.move rfl) ?_;refine dO ?_ ?_<;>intro hg46
    ·refine WL.g rfl rfl (Y.move rfl)<|WL.g rfl rfl (Y.move rfl)<|WL.g rfl rfl (Y.move rfl)<|WL.g rfl rfl (Y.move rfl)<|WL.g rfl rfl (Y.af underlying25 rfl rfl aJ ai)<|WL.g rfl rfl (Y.load underlying42 rfl hmd (aj _) rfl)<|WL.lz rfl rfl func63 rfl rfl rfl (mO _ l d _ (hl0.ext hE) hdi) aw ?_;rintro v w7 ⟨rfl,hx7⟩;have hz7:=hx7.size;have hE:=hE.ae hx7;refine WL.g rfl rfl (Y.af underlying79 rfl rfl cQ ai)<|WL.g rfl rfl (Y.ah underlying4 rfl ((hM.ext hx7).mh hcm2) rfl)<|WL.g rfl rfl (Y.pick rfl rfl)<|WL.v (Y.pick rfl rfl)<|WL.v (Y.af underlying79 rfl rfl cQ ai)<|WL.lU rfl rfl rfl eO (hU.ext hx7) hcu (fun w8 hc8 hB8_=>?_);have hz8:=hc8.size;have hE:=hE.step hc8 (fun k h=>by omega);have hM:=hM.ext hx7;have hS:=hS.ext hx7;refine WL.nil (hK15 _ _ ?_);clear hK15;refine CW.region<|WL.m rfl<|WL.v (Y.add rfl rfl bB)<|WL.a rfl<|WL.nil ?_;refine⟨x+1,by show all.length-(x+1)<all.length-x;omega,Fr.ok,by show x+1≤all.length;omega,?_,hM.aA hc8 cq,hS.aA hc8 (fun k hk h=>hnb k hk h),hE,by omega⟩;show aK _ _ _ (b8 (wo _ _ _ _ (x+1)));have e:(cu||(!decide (x=k)&&cm))=cm:=by simp [hg42,show¬x=k by omega]
     rw [hs,e];exact hB8_
    ·refine WL.o rfl rfl<|WL.o rfl rfl<|WL.o rfl rfl<|WL.o rfl rfl<|WL.o rfl rfl<|WL.o rfl rfl<|WL.o rfl rfl<|WL.o rfl rfl<|WL.o rfl rfl<|WL.g rfl rfl (Y.pick rfl rfl)<|WL.v (Y.pick rfl rfl)<|WL.v (Y.af underlying79 rfl rfl cQ ai)<|WL.lU rfl rfl rfl eO hU hcu (fun w9 hc9 hB9_=>?_);have hz9:=hc9.size;have hE:=hE.step hc9 (fun k h=>by omega);refine WL.nil (hK15 _ _ ?_);clear hK15;refine CW.region<|WL.m rfl<|WL.v (Y.add rfl rfl bB)<|WL.a rfl<|WL.nil ?_;refine⟨x+1,by show all.length-(x+1)<all.length-x;omega,Fr.ok,by show x+1≤all.length;omega,?_,hM.aA hc9 cq,hS.aA hc9 (fun k hk h=>hnb k hk h),hE,by omega⟩;show aK _ _ _ (b8 (wo _ _ _ _ (x+1)));have e:(cu||(!decide (x=k)&&cm))=false:=by simp [hg42,show x=k by omega]
     rw [hs,e];exact hB9_
  refine CW.exit ?_;refine hK9 _ _ ?_;clear hK9;refine CW.region<|WL.m rfl<|WL.v (Y.add rfl rfl bB)<|WL.a rfl<|WL.nil ?_;have hx:x=all.length:=by omega
  subst hx;exact⟨k+1,by show all.length-(k+1)<all.length-k;omega,Fr.ok,by show k+1≤all.length;omega,hU,hS,hE,by omega⟩
 refine CW.exit ?_;refine hK4 _ _ ?_;clear hK4;refine CW.seq fun K16 hK16=>?_;have hk9:k=all.length:=by omega
 subst hk9;obtain⟨U,hU0⟩:∃U,U=yu (aQ l) all all.length:=⟨_,rfl⟩;have hUl:U.length=all.length:=by rw [hU0,lL]
 rw [←hU0]at hU;have hE3:=hE;refine CW.region<|WL.a rfl<|WL.nil (hK16 _ _ ?_);clear hK16;refine CW.seq fun K17 hK17=>CW.sr fun K18 hK18=>WL.a rfl<|WL.nil (hK18 _ _ ?_);clear hK18;refine CW.block ?_;refine CW.loop (X:=Nat×Value) (fun x=>[(5,.slice B all.length cb),(6,.slice (some ⟨ub,0,none⟩) all.length all.length),(10,x.2),(11,.int .i64 (x.1:Int))]) (fun x w0=>x.1≤all.length∧Own w0 pX 32 x.2 (cn (kC (fun i=> !pB U i) all x.1))∧(∀k,x.2.ownBlock=some k→w3.heap.size≤k)∧aK w0 ub oC (b8 U)∧Sl w0 aN 32 (.slice B all.length cb) all∧Ext w w0∧w3.heap.size≤w0.heap.size) (fun x=>all.length-x.1) (0,.slice none 0 0) Fr.ok ⟨Nat.zero_le _,Own.nil,(fun k h=>by simp [Value.ownBlock]at h),hU,hS,hE,Nat.le_refl _⟩ ?_;intro x w10 hl10;clear hE hU hS;obtain⟨i,v⟩:=x;dsimp only at hl10⊢;obtain⟨hil,hO,hfu,hU,hS,hE,hz10⟩:=hl10;have hol:=sO (p:=fun i=> !pB U i) (all:=all) (k:=i);obtain⟨B2,mb2,cb2,rfl⟩:=hO.lens;have hlo:=hO.lt;have hzE:=hE.size;refine CW.seq fun K19 hK19=>CW.sr fun K20 hK20=>WL.m rfl<|WL.m rfl<|WL.v (Y.aq underlying25 rfl)<|WL.v (Y.lss rfl rfl)<|WL.nil (hK20 _ _ ?_);clear hK20;refine bp ?_ ?_<;>intro ht21
 ·refine CW.skip ?_;refine hK19 _ _ ?_;clear hK19;obtain⟨d,hdx⟩:∃d,all[i]? =some d:=⟨_,List.getElem?_eq_getElem ai⟩;obtain⟨aB,rfl,hmd⟩:=hS.at hdx;obtain⟨cu,hcu⟩:∃c,U[i]? =some c:=⟨_,List.getElem?_eq_getElem ai⟩;have hsel:=Ax (p:=fun i=> !pB U i) hdx;refine CW.bK (X:=Value) (fun u=>[(5,.slice (some aB) all.length cb),(6,.slice (some ⟨ub,0,none⟩) all.length all.length),(10,u),(11,.int .i64 (i:Int))]) (fun u w0=>Own w0 pX 32 u (cn (kC (fun i=> !pB U i) all (i+1)))∧(∀k,u.ownBlock=some k→w3.heap.size≤k)∧aK w0 ub oC (b8 U)∧Sl w0 aN 32 (.slice (some aB) all.length cb) all∧Ext w w0∧w3.heap.size≤w0.heap.size) ?_ ?_
  ·refine CW.block<|CW.sr fun K23 hK23=>WL.m rfl<|WL.m rfl<|WL.v (Y.af underlying79 rfl rfl cQ ai)<|WL.v (Y.ah underlying4 rfl (hU.mh hcu) rfl)<|WL.v (Y.not rfl)<|WL.nil (hK23 _ _ ?_);clear hK23;refine bp ?_ ?_<;>intro ht24
   ·refine CW.region<|WL.m rfl<|WL.m rfl<|WL.m rfl<|WL.v (Y.af underlying25 rfl rfl aJ ai)<|WL.v (Y.load underlying42 rfl hmd (aj _) rfl)<|WL.st (St.buildSlice rfl (kI _)) aw fun v75 w11 hR11=>?_;obtain⟨gg,rfl,hgg,hBg,hx11⟩:=hR11;have hz11:=hx11.size;have hE:=hE.ae hx11;have hU:=hU.ext hx11;have hS:=hS.ext hx11;refine WL.st (St.append underlying25 underlying25 fR rfl rfl (hO.ext hx11) (Src.one hBg (ag _)) bV (by rw [aO ag];omega)) aw fun v76 w12 hR12=>?_;obtain⟨hO12,hc12,hf12⟩:=hR12;have hz12:=hc12.size;have hE:=hE.step hc12 (fun k h=>by have:=hfu k h;omega);have hf12:∀k,v76.ownBlock=some k→w3.heap.size≤k:=by
     rcases hf12 with h|h
     ·intro k hk;rw [h]at hk;exact hfu k hk
     ·intro k hk;have:=h k hk;omega
    have hU:=hU.aA hc12 (fun h=>by have:=hfu _ h;omega);have hS:=hS.aA hc12 (fun k hk h=>by have:=hfu k h;have:=hlt1 k hk;omega);refine WL.a rfl<|WL.nil ?_;exact⟨v76,Fr.ok,by rw [hsel,if_pos (by simp [pB,hcu];simp_all)];simpa [cn]using hO12,hf12,hU,hS,hE,by omega⟩
   refine CW.skip ?_;exact⟨.slice B2 mb2 cb2,Fr.ok,by rw [hsel,if_neg (by simp [pB,hcu];simp_all)];exact hO,hfu,hU,hS,hE,by omega⟩
  rintro u w13 hj13;clear hE hO hfu hU hS;obtain⟨hO,hfu,hU,hS,hE,hz14⟩:=hj13;refine CW.region<|WL.m rfl<|WL.v (Y.add rfl rfl bB)<|WL.a rfl<|WL.nil ?_;exact⟨(i+1,u),by show all.length-(i+1)<all.length-i;omega,Fr.ok,by show i+1≤all.length;omega,hO,hfu,hU,hS,hE,by omega⟩
 refine CW.exit ?_;refine hK17 _ _ ?_;clear hK17;refine CW.sr fun K25 hK25=>WL.m rfl<|WL.a rfl<|WL.nil (hK25 _ _ ?_);clear hK25;refine CW.ret ⟨_,rfl,?_⟩;have hi2:i=all.length:=by omega
 subst hi2;exact⟨by rw [p6,←hall,←hU0];exact hO,fun k hk=>by have:=hfu k hk;have:=hE3.size;omega,hE⟩
end Go.Proofs.YtmehkigmnpjcjaaGreatDoor
namespace Go.Fw
open Go.RowKit
theorem aK.own{w:World}{g:Nat}{e:TypeId}{k n:Nat}{cs:List Value}(h:aK w g e cs)(hl:cs.length=n*k)(hn:n≤maxLen):Own w e k (.slice (some ⟨g,0,none⟩) n n) cs:=
 .inr ⟨g,n,n,[],(0,0),rfl,by rw [List.append_nil];exact h,hl,Nat.le_refl _,hn,by rw [List.append_nil];exact hl,fun o _=>by simp⟩
end Go.Fw
namespace Go.Pl
open Go.Fw
end Go.Pl
namespace Go.Proofs.YtmehkigmnpjcjaaGreatDoor
open Go.RowKit Go.Fw Go.Pl Go.Sort Go.Proofs.Tryz
end Go.Proofs.YtmehkigmnpjcjaaGreatDoor
namespace Go.Proofs.YtmehkigmnpjcjaaGreatDoor
open Go.RowKit Go.Fw Go.Pl Go.Sort Go.Proofs.Tryz
theorem CU{l:List Nd}{ids:List aD}(h:eh l ids=0):(bL l).2=0:=by
 unfold eh at h;split at h
 ·rename_i h1;exact absurd h h1
 ·rename_i h1;exact Decidable.not_not.1 h1
theorem Gn{l:List Nd}{ids:List aD}(h:eh l ids=0):p6 l (nz ids)=kU l (kv l ids):=by
 have hm:∀d,d∈nz ids↔d∈ids:=fun d=>by rw [nz,wv];simp
 have hin:=va h;exact Cj (CU h) (yL _ _ List.Pairwise.nil) (fun d hd=>hin d ((hm d).1 hd)) (fun d hd=>by rw [nd hd hin];exact(hm d).symm)
end Go.Proofs.YtmehkigmnpjcjaaGreatDoor
namespace Go.Pl
open Go.Fw
variable {l:List Nd}
abbrev Hl(l:List Nd)(ids:List aD):List aD:=kU l (kv l ids)
end Go.Pl
namespace Go.Pl
open Go.Fw
theorem sf:∀{l:List Nd} {a:List aD} {i:Nat},(∀j n,l[j]? =some n→dx (a++bz (l.take j)) n=0)→(fQ l a i).2=0
 | [],_,_,_=>rfl
 |x::r,a,i,h=>by
  have h0:dx a x=0:=by simpa using h 0 x rfl
  rw [fQ,if_pos h0];exact sf fun j n hj=>by
   have:=h (j+1) n (by simpa using hj);simpa [bz]using this
theorem uX{l:List Nd}(hl:l.length≤200)(h:∀j n,l[j]? =some n→dx (bz (l.take j)) n=0):(bL l).2=0:=by
 rw [bL,if_neg ai];exact sf fun j n hj=>by simpa using h j n hj
theorem xS{ahead:List aD}{n:Nd}(h1:n.ps.length≤8)(h2:mP n.ps=true)(h3:n.id∉ahead)(h4:∀p∈n.ps,p∈ahead):dx ahead n=0:=by
 rw [dx,if_neg ai,if_neg (by rw [h2];decide),if_neg h3,if_neg];rintro⟨p,hp,hn⟩;exact hn (h4 p hp)
structure zg(l m:List Nd):Prop where
 okl:(bL l).2=0
 okm:(bL m).2=0
 sub:∀d∈bz l,d∈bz m
 par:∀d∈bz l,Ci m d=Ci l d
section
variable {l m:List Nd} (g:zg l m)
include g
theorem zg.up{a d:aD}(h:Ab l a d):a∈bz l→Ab m a d:=by
 induction h with
 |refl d=>exact fun _=>.refl _
 | @step n p d hn hp _ ih=>
  intro ha;have hpi:p∈bz l:=by
   obtain⟨j,hj⟩:=List.mem_iff_getElem?.1 hn;exact(jv g.okl hj hp).1
  obtain⟨n',hn',e⟩:=List.mem_map.1 (g.sub _ ha);have e2:n'.ps=n.ps:=by rw [←lx g.okm hn',e,g.par _ ha,lx g.okl hn]
  rw [←e];exact .step hn' (by rw [e2];exact hp) (ih hpi)
theorem zg.down{a d:aD}(h:Ab m a d):a∈bz l→Ab l a d:=by
 induction h with
 |refl d=>exact fun _=>.refl _
 | @step n p d hn hp _ ih=>
  intro ha;obtain⟨n',hn',e⟩:=List.mem_map.1 ha;have e2:n'.ps=n.ps:=by rw [←lx g.okl hn',e,←g.par _ ha,lx g.okm hn]
  have hp':p∈n'.ps:=by rw [e2];exact hp
  have hpi:p∈bz l:=by
   obtain⟨j,hj⟩:=List.mem_iff_getElem?.1 hn';exact(jv g.okl hj hp').1
  rw [←e];exact .step hn' hp' (ih hpi)
theorem zg.ab{a d:aD}(ha:a∈bz l):Ab m a d↔Ab l a d:=⟨fun h=>g.down h ha,fun h=>g.up h ha⟩
theorem zg.under{ids:List aD}(hin:∀d∈ids,d∈bz l){d:aD}:cO m ids d↔cO l ids d:=by
 constructor
 ·rintro⟨a,ha,h⟩;exact⟨a,ha,(g.ab (hin a ha)).1 h⟩
 ·rintro⟨a,ha,h⟩;exact⟨a,ha,(g.ab (hin a ha)).2 h⟩
end
theorem CP{l:List Nd}{n:Nd}(h:(bL (l++[n])).2=0):zg l (l++[n]):=by
 have hl:=lT h;rw [List.length_append,List.length_singleton]at hl;have okl:(bL l).2=0:=uX ai fun j x hj=>by
  have hlt:=(List.getElem?_eq_some_iff.1 hj).1;have:=Df h (i:=j) (n:=x) (by rw [List.getElem?_append_left hlt];exact hj);rwa [List.take_append_of_le_length ai]at this
 refine⟨okl,h,fun d hd=>?_,fun d hd=>?_⟩
 ·obtain⟨x,hx,e⟩:=List.mem_map.1 hd;exact e▸List.mem_map.2 ⟨x,List.mem_append_left _ hx,rfl⟩
 ·obtain⟨x,hx,e⟩:=List.mem_map.1 hd;rw [←e,lx h (List.mem_append_left _ hx),lx okl hx]
end Go.Pl
