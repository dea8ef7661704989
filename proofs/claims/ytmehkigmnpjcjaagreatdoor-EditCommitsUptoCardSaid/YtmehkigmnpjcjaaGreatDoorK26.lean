/- Parts of a proof: what its last text leans on. No condition. -/
import Derived.Test.YtmehkigmnpjcjaaGreatDoorK25
set_option linter.unusedSimpArgs false
set_option linter.unusedVariables false
namespace Go.Proofs.YtmehkigmnpjcjaaGreatDoor
open Go.RowKit Go.Fw Go.Pl Go.Sort Go.Fu Go.Proofs.Tryz
theorem GZ{P:List bx}(hk:lQ P)(hl:P.length≤200){ids:List aD}(hin:∀d∈ids,d∈dK P){k:Nat}{c:bx}(hc:P[k]? =some c){cu:Bool}(h:(fJ (bH P) ids)[k]? =some cu):cu=true↔cO (bH P) ids (eH c):=by
 have hn:=hk.nodes hl;have h1:=fM hn (vT hc);have h2:cK (fJ (bH P) ids) (bH P) (eH c)=true↔_:=fE hn (fun d hd=>by rw [cR];exact hin d hd) (by rw [cR];exact List.mem_map.2 ⟨c,List.mem_of_getElem? hc,rfl⟩);rw [←h2,iB];simp only [G2]at h1;rw [h1,h];simp
theorem nf{P:List bx}(h:(jJ P).2=0){ids:List aD}:eh (bH P) ids=lH P ids:=by
 obtain⟨h1,h2⟩:=lP.1 h;unfold eh lH;have h3:¬(jJ P).2≠0:=fun hh=>hh h;rw [if_neg (by rw [h2.nodes h1];decide),cR,if_neg h3]
structure HG(w w':World)(g rb ra:Nat)(ns:List Nn)(T:Tr):Prop where
 ft:cH w' g rb ra T.ad ns
 aR:Fw.aR ns=T.e
 new:∀q,Fp g rb ra ns q→w.heap.size≤q
theorem HG.len{w w':World}{g rb ra:Nat}{ns:List Nn}{T:Tr}(h:HG w w' g rb ra ns T):T.e.length=ns.length:=by rw [←h.aR];exact List.length_map _
set_option maxRecDepth 100000 in
set_option maxHeartbeats 4000000 in
theorem Cg(u v0:Value)(l:List jB)(ids:List aD)(w:World)(hl:ua w u l)(hd:Sl w aN 32 v0 ids)(hK:Mem w ⟨1,0,none⟩ (dF eF)):Calls prog 12 #[u,v0] w (cB fun v w'=>∃p,v= .tuple #[.pointer p,.int .i64 (lH (bN l) ids)]∧(lH (bN l) ids≠0→p=none)∧(lH (bN l) ids=0→∃g rb ra ns,p=some ⟨g,0,none⟩∧HG w w' g rb ra ns (Hq (bN l) ids))∧Ext w w'):=by
 obtain⟨A2,m2,c2,rfl,hlm,hmc,hcm,hlg⟩:=id hl.sl;unfold maxLen at hcm;obtain⟨A1,m1,c1,rfl,hdm,hdc,hdx,hdg⟩:=id hd;unfold maxLen at hdx;obtain⟨ci_,hci,hcz,hcs⟩:=gQ;have hcl:(bN l).length=m2:=by rw [List.length_map];exact hlm
 refine ar 75 [4,5] [(0,.slice A2 m2 c2),(1,.slice A1 m1 c1)] func12 rfl rfl rfl aL cz ?_;have hE:Ext w w:=aE.refl;refine CW.sr fun K1 hK1=>WL.a rfl<|WL.a rfl<|WL.nil (hK1 _ _ ?_);clear hK1;refine CW.sr fun K2 hK2=>WL.m rfl<|WL.call func22 rfl rfl rfl (ux _ l _ hl hK) aL ?_;rintro v20 w1 hR1;obtain⟨A,c,r,cl,ys,kk,rfl,hQ,hP,hr,hkk,hx1⟩:=hR1;have hz1:=hx1.size;have hE0:=hx1;clear hE;have hE:Ext w1 w1:=aE.refl;refine WL.m rfl<|WL.v (Y.extract rfl rfl)<|WL.v (Y.extract rfl rfl)<|WL.v (Y.extract rfl rfl) ?_;refine kn rfl aL aw fun g6 w2 hx2 hg6 hB6=>?_;have hlt6:=hB6.lt;have hz2:=hx2.size;have hE:=hE.ae hx2;refine WL.a rfl<|WL.a rfl<|WL.nil (hK2 _ _ ?_);clear hK2;refine CW.seq fun K3 hK3=>CW.sr fun K4 hK4=>WL.m rfl<|WL.v (Y.neq rfl rfl)<|WL.nil (hK4 _ _ ?_);clear hK4;refine bp ?_ ?_<;>intro ht5
 ·refine CW.sr fun K6 hK6=>WL.m rfl<|WL.a rfl<|WL.a rfl<|WL.nil (hK6 _ _ ?_);clear hK6;refine CW.ret ⟨_,rfl,?_⟩;have he:lH (bN l) ids=(jJ (bN l)).2:=by rw [lH,if_pos (by assumption)]
  exact⟨none,by rw [he];rfl,fun _=>rfl,fun h=>absurd (he.symm.trans h) (by assumption),hE0.ae hE⟩
 refine CW.skip ?_;refine hK3 _ _ ?_;clear hK3;refine CW.seq fun K7 hK7=>CW.seq fun K8 hK8=>?_;have h0:(jJ (bN l)).2=0:=Decidable.not_not.1 (by assumption);obtain⟨hl200,hok⟩:=lP.1 h0;have hP:tS w1 A c r cl ys (bN l):=by
  rw [hkk h0,List.take_of_length_le (by rw [List.length_map];exact Nat.le_refl _)]at hP;exact hP
 have hyl:=hP.len;refine CW.region<|WL.m rfl<|WL.v (Y.aq underlying25 rfl)<|WL.m rfl<|WL.nil (hK8 _ _ ?_);clear hK8;refine CW.block ?_;refine CW.loop (X:=Nat) (fun x=>[(0,.slice A2 m2 c2),(6,.pointer (some ⟨g6,0,none⟩)),(1,.slice A1 m1 c1),(27,.slice A1 m1 c1),(28,.int .i64 (m1:Int)),(29,.int .i64 (x:Int))]) (fun x w0=>x≤m1∧(∀(i:Nat) (d:aD),i<x→ids[i]? =some d→d∈dK (bN l))∧Ext w1 w0∧aK w0 g6 pV (q9 A ys.length c r)∧w2.heap.size≤w0.heap.size) (fun x=>m1-x) 0 Fr.ok ⟨Nat.zero_le _,(fun i d h=>by omega),hE,hB6,Nat.le_refl _⟩ ?_;intro x w3 hl3;clear hE hB6;obtain⟨hxm,hpi,hE,hB6,hz3⟩:=hl3;have hzE:=hE.size;refine CW.sr fun K9 hK9=>WL.v (Y.lss rfl rfl)<|WL.nil (hK9 _ _ ?_);clear hK9;refine CW.seq fun K10 hK10=>?_;refine bp ?_ ?_<;>intro ht11
 ·refine CW.skip ?_;refine hK10 _ _ ?_;clear hK10;refine CW.seq fun K12 hK12=>?_;refine CW.block<|CW.seq fun K13 hK13=>?_;obtain⟨d,hdd⟩:∃d,ids[x]? =some d:=⟨_,List.getElem?_eq_getElem ai⟩;obtain⟨a,rfl,hma⟩:=hdg _ _ hdd;refine CW.region<|WL.v (Y.af underlying25 rfl rfl aJ ai)<|WL.v (Y.load underlying42 rfl (hma.ext (hE0.ae hE)) (aj _) rfl) ?_;refine ck rfl aL aw fun g10 w4 hx4 hg10 hB10=>?_;have hlt10:=hB10.lt;have hz4:=hx4.size;have hE:=hE.ae hx4;have hB6:=hB6.ext hx4;refine WL.nil (hK13 _ _ ?_);clear hK13;refine CW.sr fun K14 hK14=>WL.v (Y.fieldAddr dI rfl)<|WL.v (Y.ah underlying71 rfl hB6.mem.fg rfl)<|WL.v (Y.load underlying42 rfl hB10.mem (aj _) rfl)<|WL.v (Y.rE rfl rfl (hP.map.ext hE))<|WL.m rfl<|WL.v (Y.extract rfl rfl)<|WL.v (Y.extract rfl rfl)<|WL.a rfl<|WL.a rfl<|WL.nil (hK14 _ _ ?_);clear hK14;refine CW.sr fun K15 hK15=>WL.m rfl<|WL.v (Y.not rfl)<|WL.nil (hK15 _ _ ?_);clear hK15;refine bp ?_ ?_<;>intro ht16
  ·refine CW.sr fun K17 hK17=>WL.a rfl<|WL.a rfl<|WL.nil (hK17 _ _ ?_);clear hK17;refine CW.ret ⟨_,rfl,?_⟩;have he:lH (bN l) ids=5:=by rw [lH,if_neg ai,if_pos ⟨d,List.mem_of_getElem? hdd,by assumption⟩]
   exact⟨none,by rw [he],fun _=>rfl,fun h=>(by rw [he]at h;cases h),hE0.ae hE⟩
  refine CW.skip ?_;refine hK12 _ _ ?_;clear hK12;refine CW.region<|WL.v (Y.add rfl rfl bB)<|WL.m rfl<|WL.nil ?_;refine⟨x+1,by show m1-(x+1)<m1-x;omega,Fr.ok,by show x+1≤m1;omega,?_,hE,hB6,by omega⟩;intro i q hi hq;by_cases e:i<x
  ·exact hpi i q e hq
  ·have e2:i=x:=by omega
   subst e2;rw [hdd]at hq;cases hq
   assumption
 refine CW.exit ?_;refine hK7 _ _ ?_;clear hK7;refine CW.seq fun K18 hK18=>?_;have hin:∀d∈ids,d∈dK (bN l):=fun d hd=>by
  obtain⟨i,hi⟩:=List.mem_iff_getElem?.1 hd;exact hpi i d (by have:=(List.getElem?_eq_some_iff.1 hi).1;omega) hi
 have htx:lH (bN l) ids=0:=kW.2 ⟨hl200,hok,hin⟩;refine CW.region<|WL.v (Y.load underlying73 rfl hB6.mem (ef _ _) rfl)<|WL.m rfl<|WL.call func25 rfl rfl rfl (pz A c r cl _ ys ids _ (hP.yk.ext hE) (by rw [hP.is];exact hok.nodes hl200) (by rw [hP.is,cR];exact hP.map.ext hE) (hd.ext (hE0.ae hE)) (fun d hd=>by rw [hP.is,cR];exact hin d hd)) aL ?_;rintro v45 w5 hR5;obtain⟨ib,rfl,hib,hIn,hx5⟩:=hR5;have hz5:=hx5.size;have hE:=hE.ae hx5;have hB6:=hB6.ext hx5;have hlti:=hIn.lt;rw [hP.is]at hIn;refine kH rfl aL aw fun g13 w6 hx6 hg13 hB13=>?_;have hlt13:=hB13.lt;have hz6:=hx6.size;have hE:=hE.ae hx6;have hB6:=hB6.ext hx6;refine WL.nil (hK18 _ _ ?_);clear hK18;refine CW.sr fun K19 hK19=>WL.call func19 rfl rfl rfl (wG _) aL ?_;rintro v46 w7 hR7;obtain⟨g,rb,ra,gn,rfl,hn1,hn2,hn3,hn4,hT,hx7⟩:=hR7;have hz7:=hx7.size;have hE:=hE.ae hx7;have hB6:=hB6.ext hx7;have hB13:=hB13.ext hx7;have hIn:=(hIn.ext hx6).ext hx7;refine WL.a rfl<|WL.nil (hK19 _ _ ?_);clear hK19;refine CW.seq fun K20 hK20=>CW.sr fun K21 hK21=>WL.m rfl<|WL.v (Y.aq underlying22 rfl)<|WL.m rfl<|WL.nil (hK21 _ _ ?_);clear hK21;refine CW.block ?_;refine CW.loop (X:=Nat×List Nn) (fun x=>[(0,.slice A2 m2 c2),(6,.pointer (some ⟨g6,0,none⟩)),(13,.pointer (some ⟨g13,0,none⟩)),(14,.pointer (some ⟨g,0,none⟩)),(47,.slice A2 m2 c2),(48,.int .i64 (m2:Int)),(49,.int .i64 (x.1:Int))]) (fun x w0=>x.1≤m2∧cH w0 g rb ra (pZ (bN l) (cO (bH (bN l)) ids) x.1).ad x.2∧Fw.aR x.2=(pZ (bN l) (cO (bH (bN l)) ids) x.1).e∧(∀q,Fp g rb ra x.2 q→w6.heap.size≤q)∧Ext w1 w0∧aK w0 g6 pV (q9 A ys.length c r)∧aK w0 g13 qY (xX A ys.length c r ib)∧aK w0 ib oC (b8 (fJ (bH (bN l)) ids))∧w7.heap.size≤w0.heap.size) (fun x=>m2-x.1) (0,x5 gn) Fr.ok ⟨Nat.zero_le _,hT,rfl,(fun q hq=>by have:=hq.Hc;omega),hE,hB6,hB13,hIn,Nat.le_refl _⟩ ?_;intro x w8 hl8;clear hE hB6 hB13 hIn hT;obtain⟨k,ns⟩:=x;dsimp only at hl8⊢;obtain⟨hkm,hT,hels,hfr,hE,hB6,hB13,hIn,hz8⟩:=hl8;have hzE:=hE.size;have hTlt:=fun q (hq:Fp g rb ra ns q)=>hT.lt hq;refine CW.sr fun K22 hK22=>WL.v (Y.lss rfl rfl)<|WL.nil (hK22 _ _ ?_);clear hK22;refine CW.seq fun K23 hK23=>?_;refine bp ?_ ?_<;>intro ht24
 ·refine CW.skip ?_;refine hK23 _ _ ?_;clear hK23;obtain⟨cx,hcx⟩:∃cx,l[k]? =some cx:=⟨_,List.getElem?_eq_getElem ai⟩;have hco:=hl.all cx (List.mem_of_getElem? hcx);obtain⟨a2,rfl,hma2⟩:=hlg _ _ hcx;obtain⟨cm,pA,pca,oB,ocb⟩:=cx;have hos:=hco.os;have hcc:(bN l)[k]? =some cm:=lr hcx;obtain⟨y,hy⟩:∃y,ys[k]? =some y:=⟨_,List.getElem?_eq_getElem ai⟩;obtain⟨⟨yid,yps⟩,yA,yc⟩:=y;obtain⟨a3,rfl,hma3⟩:=hP.yk.sl.at hy;have hyid:yid=eH cm:=by
   have h1:(aQ ys)[k]? =some ⟨yid,yps⟩:=by simp [hy]
   rw [hP.is,List.getElem?_map,hcc]at h1;injection h1 with h1
   exact(congrArg Nd.id h1).symm
  subst hyid;obtain⟨cu,hcu⟩:∃b,(fJ (bH (bN l)) ids)[k]? =some b:=⟨_,List.getElem?_eq_getElem (by rw [iA,List.length_map];omega)⟩;have hcS:cu=true↔cO (bH (bN l)) ids (eH cm):=GZ hok hl200 hin hcc hcu;have htk:=vZ hok hl200 (iu (bN l) ids) (k:=k) ai;have hTr:(⟨(pZ (bN l) (cO (bH (bN l)) ids) k).ad,Fw.aR ns⟩:Tr)=(pZ (bN l) (cO (bH (bN l)) ids) k):=by rw [hels]
  refine CW.bK (X:=List Nn) (fun u=>[(0,.slice (some a2) m2 c2),(6,.pointer (some ⟨g6,0,none⟩)),(13,.pointer (some ⟨g13,0,none⟩)),(14,.pointer (some ⟨g,0,none⟩)),(47,.slice (some a2) m2 c2),(48,.int .i64 (m2:Int)),(49,.int .i64 (k:Int))]) (fun u w0=>cH w0 g rb ra (pZ (bN l) (cO (bH (bN l)) ids) (k+1)).ad u∧Fw.aR u=(pZ (bN l) (cO (bH (bN l)) ids) (k+1)).e∧(∀q,Fp g rb ra u q→w6.heap.size≤q)∧Ext w1 w0∧aK w0 g6 pV (q9 (some a3) ys.length c r)∧aK w0 g13 qY (xX (some a3) ys.length c r ib)∧aK w0 ib oC (b8 (fJ (bH (bN l)) ids))∧w8.heap.size≤w0.heap.size) ?_ ?_
  ·refine CW.block<|CW.seq fun K26 hK26=>?_;dsimp only [jB.pv,jB.ov,FF]at hos hma2;refine CW.region<|WL.m rfl<|WL.v (Y.af underlying22 rfl rfl db ai)<|WL.v (Y.load underlying29 rfl (hma2.ext (hE0.ae hE)) (bw _ _ _ _) rfl)<|WL.alloc (hci) (hcz) rfl aw fun g16 w9 hx9 hg16 hB16=>?_;have hlt16:=hB16.lt;have hz9:=hx9.size;have hE:=hE.ae hx9;have hB6:=hB6.ext hx9;have hB13:=hB13.ext hx9;refine WL.a rfl<|WL.store (g:=g16) (pre:=[]) (old:=dt (.slice none 0 0) ByteArray.empty ByteArray.empty (.slice none 0 0)) (post:=[]) (new:=(dt (.slice pA cm.parents.length pca) cm.author cm.note (.slice oB cm.ops.length ocb))) rfl rfl rfl rfl (bw _ _ _ _) (by simpa using hB16) j0 (FT rfl rfl rfl rfl) (fun w10 hc10 hB10_=>?_);have hz10:=hc10.size;have hE:=hE.step hc10 (fun k h=>by omega);have hB6:=hB6.aA hc10 cq;have hB13:=hB13.aA hc10 cq;have hB16:aK w10 g16 29 (dt (.slice pA cm.parents.length pca) cm.author cm.note (.slice oB cm.ops.length ocb)):=by simpa using hB10_
   have hx810:Ext w8 w10:=hx9.step hc10 (fun k h=>by omega);have hT:=hT.ext hx810;have hIn:=hIn.ext hx810;refine WL.nil (hK26 _ _ ?_);clear hK26;refine CW.seq fun K27 hK27=>CW.sr fun K28 hK28=>WL.v (Y.fieldAddr ee rfl)<|WL.v (Y.ah underlying79 rfl hB13.mem.fv rfl)<|WL.m rfl<|WL.v (Y.af underlying79 rfl rfl cQ ai)<|WL.v (Y.ah underlying4 rfl (hIn.mh hcu) rfl)<|WL.v (Y.not rfl)<|WL.nil (hK28 _ _ ?_);clear hK28;refine bp ?_ ?_<;>intro ht29
   ·refine CW.exit ?_;have hno:¬cO (bH (bN l)) ids (eH cm):=fun h=>by rw [hcS.2 h]at ht29;cases ht29
    refine⟨ns,Fr.ok,?_,?_,hfr,hE,hB6,hB13,hIn,by omega⟩<;>rw [vk hcc hno]<;>assumption
   refine CW.skip ?_;refine hK27 _ _ ?_;clear hK27;refine CW.seq fun K30 hK30=>?_;refine CW.head 9 aG aG fun w11 hx11=>?_;skip;have hz11:=hx11.size;have hE:=hE.ae hx11;have hB6:=hB6.ext hx11;have hB13:=hB13.ext hx11;have hB16:=hB16.ext hx11;refine HL.val (Y.move rfl) aw<|HL.val (Y.fieldAddr cS rfl) aw<|HL.val (Y.ah underlying38 rfl hB6.mem.eG rfl) aw<|HL.val (Y.move rfl) aw<|HL.val (Y.af underlying38 rfl rfl cc ai) aw<|HL.val (Y.fieldAddr dX rfl) aw<|HL.val (Y.load underlying42 rfl ((hma3.ext hE)).nC (aj _) rfl) aw<|HL.val (Y.fieldAddr bq rfl) aw<|HL.val (Y.ah underlying27 rfl hB16.mem.jo rfl) aw<|HL.nil<|WL.call func20 rfl rfl rfl (xR g rb ra (pZ (bN l) (cO (bH (bN l)) ids) k).ad ns (eH cm) _ cm.ops (kB (cO (bH (bN l)) ids) ((bN l).take k)) _ (hT.ext hx11) (by rw [hTr];exact htk) (hos.ext (hE0.ae hE)) (fun hne q hq=>by
    have h1:=hos.Ft EB hne q hq;have h2:=hx1.size;exact⟨by omega,fun h=>by have:=hfr q h;omega⟩)) aL ?_;rintro v69 w12 hR12
   rw [hTr]at hR12;obtain⟨rfl,ns2,hT2,he2,hc12,hf2,_⟩:=hR12;have hS:=hcS.1 (by simpa using ht29);have hw0:di (pZ (bN l) (cO (bH (bN l)) ids) k) (eH cm) cm.ops=0:=vK hok hl200 (iu (bN l) ids) hcc hS htk;have hz12:=hc12.size;have hE:=hE.step hc12 (fun q hq=>by have:=hfr q hq;omega);have hB6:=hB6.aA hc12 (fun h=>by have:=hfr _ h;omega);have hB13:=hB13.aA hc12 (fun h=>by have:=hfr _ h;omega);have hIn:=(hIn.ext hx11).aA hc12 (fun h=>by have:=hfr _ h;omega);refine WL.a rfl<|WL.nil (hK30 _ _ ?_);clear hK30;refine CW.sr fun K31 hK31=>WL.m rfl<|WL.v (Y.neq rfl rfl)<|WL.nil (hK31 _ _ ?_);clear hK31;refine bp ?_ ?_<;>intro ht32
   ·refine CW.sr fun K33 hK33=>WL.m rfl<|WL.a rfl<|WL.a rfl<|WL.nil (hK33 _ _ ?_);clear hK33;refine CW.ret ⟨_,rfl,?_⟩;exact absurd hw0 (by assumption)
   refine CW.skip ?_;refine⟨ns2,Fr.ok,?_,?_,fun q hq=>?_,hE,hB6,hB13,hIn,by omega⟩
   ·rw [oP hcc hS];exact hT2
   ·rw [oP hcc hS];exact he2
   ·rcases hf2 q hq with h|h
    ·exact hfr q h
    ·omega
  rintro u w13 hj13;clear hE hB6 hB13 hIn hT;obtain⟨hT,hels2,hfr2,hE,hB6,hB13,hIn,hz9⟩:=hj13;refine CW.region<|WL.v (Y.add rfl rfl bB)<|WL.m rfl<|WL.nil ?_;exact⟨(k+1,u),by show m2-(k+1)<m2-k;omega,Fr.ok,by show k+1≤m2;omega,hT,hels2,hfr2,hE,hB6,hB13,hIn,by omega⟩
 refine CW.exit ?_;refine hK20 _ _ ?_;clear hK20;refine CW.sr fun K34 hK34=>WL.m rfl<|WL.a rfl<|WL.a rfl<|WL.nil (hK34 _ _ ?_);clear hK34;refine CW.ret ⟨_,rfl,?_⟩;have hkl:k=(bN l).length:=by omega
 subst hkl;exact⟨_,by rw [htx],fun h=>absurd htx h,fun _=>⟨g,rb,ra,ns,rfl,hT,hels,(fun q hq=>by have:=hfr q hq;omega)⟩,hE0.ae hE⟩
theorem zJ(u v0 v1:Value)(l:List jB)(a b:List aD)(w:World)(hl:ua w u l)(ha:Sl w aN 32 v0 a)(hb:Sl w aN 32 v1 b)(hp:(a.length+b.length)*32≤140737488355328)(hK:Mem w ⟨1,0,none⟩ (dF eF)):Calls prog 10 #[u,v0,v1] w (cB fun v w'=>∃hv,v= .tuple #[hv,.int .i64 (rl (bN l) a b)]∧Own w' pX 32 hv (cn (C0 (bN l) a b))∧(∀k,hv.ownBlock=some k→w.heap.size≤k)∧Ext w w'):=by
 obtain⟨A1,m1,c1,rfl,h1m,h1c,h1x,h1g⟩:=id ha;obtain⟨A2,m2,c2,rfl,h2m,h2c,h2x,h2g⟩:=id hb;refine ar 35 [6,7] [(0,u),(1,.slice A1 m1 c1),(2,.slice A2 m2 c2)] func10 rfl rfl rfl aL iI ?_;have hE:Ext w w:=aE.refl;refine CW.sr fun K1 hK1=>WL.a rfl<|WL.a rfl<|WL.nil (hK1 _ _ ?_);clear hK1;refine CW.sr fun K2 hK2=>WL.m rfl<|WL.call func9 rfl rfl rfl (sG _ l _ hl hK) aL ?_;rintro v13 w1 hR1;obtain⟨A,c,ys,rfl,hQ,hys,hx1⟩:=hR1;have hQ0:=hQ;have hz1:=hx1.size;have hE:=hE.ae hx1;refine WL.m rfl<|WL.v (Y.extract rfl rfl)<|WL.v (Y.extract rfl rfl)<|WL.a rfl<|WL.a rfl<|WL.nil (hK2 _ _ ?_);clear hK2;refine CW.seq fun K3 hK3=>CW.sr fun K4 hK4=>WL.m rfl<|WL.v (Y.neq rfl rfl)<|WL.nil (hK4 _ _ ?_);clear hK4;refine bp ?_ ?_<;>intro ht5
 ·refine CW.sr fun K6 hK6=>WL.m rfl<|WL.a rfl<|WL.a rfl<|WL.nil (hK6 _ _ ?_);clear hK6;refine CW.ret ⟨_,rfl,?_⟩;have he:lH (bN l) (a++b)=(jJ (bN l)).2:=by rw [lH,if_pos (by assumption)]
  have he2:rl (bN l) a b=(jJ (bN l)).2:=by rw [rl,if_pos (by rw [he];assumption),he]
  exact⟨.slice none 0 0,by rw [he2];rfl,by rw [C0,if_neg (by rw [he2];assumption)];exact Own.nil,(fun k h=>by simp [Value.ownBlock]at h),hE⟩
 refine CW.skip ?_;refine hK3 _ _ ?_;clear hK3;refine CW.seq fun K7 hK7=>?_;have h0:(jJ (bN l)).2=0:=Decidable.not_not.1 (by assumption);rw [if_pos h0]at hys;refine CW.region<|WL.m rfl<|WL.m rfl<|WL.st (St.append (news:=cn a) underlying25 underlying25 fR rfl rfl Own.nil (Sl.src ag (ha.ext hE)) (nb _) (by simp only [List.length_nil];omega)) aw fun v22 w2 hR2=>?_;obtain⟨hO2,hc2,hf2⟩:=hR2;have hz2:=hc2.size;have hx2:Ext w1 w2:=hc2.sD (fun k _ h=>by simp [Value.ownBlock]at h);rw [List.nil_append]at hO2;have hE:=hE.ae hx2;have hf2:∀k,v22.ownBlock=some k→w1.heap.size≤k:=fun k hk=>by
  rcases hf2 with h|h
  ·rw [h]at hk;simp [Value.ownBlock]at hk
  ·exact h k hk
 refine WL.m rfl<|WL.st (St.append (news:=cn b) underlying25 underlying25 fR rfl rfl hO2 (Sl.src ag (hb.ext hE)) (nb _) (by rw [aO ag];omega)) aw fun v24 w3 hR3=>?_;obtain⟨hO3,hc3,hf3⟩:=hR3;have hz3:=hc3.size;have hE:=hE.step hc3 (fun k h=>by have:=hf2 k h;omega);have hx13:Ext w1 w3:=hx2.step hc3 (fun k h=>hf2 k h);have hN:=hQ0.yk.ext hx13;have hO3:Own w3 pX 32 v24 (cn (a++b)):=by rw [cn,List.map_append,List.flatten_append];exact hO3
 have hS3:=hO3.sl ag aw;refine WL.call func23 rfl rfl rfl (y6 _ _ ys (a++b) _ hN hS3) aL ?_;rintro v25 w4 hR4;obtain⟨hv,rfl,hO4,hf4,hx4⟩:=hR4;have hz4:=hx4.size;have hzE:=hE.size;have hE:=hE.ae hx4;rw [hys,nf h0]at hO4⊢;refine WL.m rfl<|WL.v (Y.extract rfl rfl)<|WL.v (Y.extract rfl rfl)<|WL.a rfl<|WL.a rfl<|WL.nil (hK7 _ _ ?_);clear hK7;refine CW.seq fun K8 hK8=>CW.sr fun K9 hK9=>WL.m rfl<|WL.v (Y.neq rfl rfl)<|WL.nil (hK9 _ _ ?_);clear hK9;refine bp ?_ ?_<;>intro ht10
 ·refine CW.sr fun K11 hK11=>WL.m rfl<|WL.a rfl<|WL.a rfl<|WL.nil (hK11 _ _ ?_);clear hK11;refine CW.ret ⟨_,rfl,?_⟩;have he2:rl (bN l) a b=lH (bN l) (a++b):=by rw [rl,if_pos (by assumption)]
  exact⟨.slice none 0 0,by rw [he2];rfl,by rw [C0,if_neg (by rw [he2];assumption)];exact Own.nil,(fun k h=>by simp [Value.ownBlock]at h),hE⟩
 refine CW.skip ?_;refine hK8 _ _ ?_;clear hK8;refine CW.seq fun K12 hK12=>CW.seq fun K13 hK13=>?_;have htx:lH (bN l) (a++b)=0:=Decidable.not_not.1 (by assumption);rw [if_pos htx]at hO4;have hO4:Own w4 pX 32 hv (cn (Hl (bH (bN l)) (a++b))):=hO4;obtain⟨A9,n9,c9,rfl⟩:=hO4.lens;have hn9:n9=(Hl (bH (bN l)) (a++b)).length:=by
  have:=(hO4.mem _ _ _ rfl).2.2.1;rw [aO ag]at this;omega
 subst hn9;refine CW.region<|WL.m rfl<|WL.v (Y.aq underlying25 rfl)<|WL.v (Y.gtr rfl rfl)<|WL.nil (hK13 _ _ ?_);clear hK13;refine bp ?_ ?_<;>intro ht14
 ·refine CW.sr fun K15 hK15=>WL.a rfl<|WL.a rfl<|WL.nil (hK15 _ _ ?_);clear hK15;refine CW.ret ⟨_,rfl,?_⟩;have he2:rl (bN l) a b=4:=by rw [wh htx,if_pos ai]
  exact⟨_,by rw [he2],by rw [C0,if_neg (by rw [he2];decide)];exact Own.nil,(fun k h=>by simp [Value.ownBlock]at h),hE⟩
 refine CW.skip ?_;refine hK12 _ _ ?_;clear hK12;refine CW.sr fun K16 hK16=>WL.m rfl<|WL.a rfl<|WL.a rfl<|WL.nil (hK16 _ _ ?_);clear hK16;refine CW.ret ⟨_,rfl,?_⟩;have he2:rl (bN l) a b=0:=by rw [wh htx,if_neg ai]
 exact⟨_,by rw [he2],by rw [C0,if_pos he2];exact hO4,(fun k h=>by have:=hf4 k h;omega),hE⟩
end Go.Proofs.YtmehkigmnpjcjaaGreatDoor
namespace Go.Proofs.YtmehkigmnpjcjaaGreatDoor
open Go.RowKit Go.Fw Go.Pl Go.Sort Go.Fu Go.Proofs.Tryz
def Il(i:Int):List Value:=[.int .i64 i]
def Jv(i:Int):aD:=⟨UInt8.ofNat (i % 256).toNat::List.replicate 31 0,by simp⟩
theorem HV(i:Int):IntKind.u8.wrap i=((UInt8.ofNat (i % 256).toNat).toNat:Int):=by
 have h1:=Int.emod_nonneg i (by decide:(256:Int)≠0);have h2:=Int.emod_lt_of_pos i (by decide:(0:Int)<256);have h3:IntKind.u8.wrap i=i % 256:=by simp [IntKind.wrap,IntKind.bits,IntKind.signed]
 rw [h3,UInt8.toNat_ofNat'];omega
theorem Cd(i:Int)(w:World):(Instr.build 42 [(0,.int .u8 (IntKind.u8.wrap i))].toArray).run prog w= .ok (cU (Jv i)) w:=by
 rw [HV];exact run_build w _ _ _ aG
theorem yh{i n:Int}(h:0<n): -n<i.tmod n∧i.tmod n<n:=by
 have h1:=Int.tmod_lt_of_pos (-i) h;rw [Int.neg_tmod]at h1;exact⟨by omega,Int.tmod_lt_of_pos i h⟩
def x7(i:Int)(n:Nat):Nat:=((i.tmod (n:Int)+(n:Int)).tmod (n:Int)).toNat
theorem Dc{i:Int}{n:Nat}(h:0<n):(i.tmod (n:Int)+(n:Int)).tmod (n:Int)=(x7 i n:Int)∧x7 i n<n:=by
 have hn:(0:Int)<(n:Int):=by omega
 have h1:=yh (i:=i) hn;have h2:=Int.tmod_nonneg (a:=i.tmod (n:Int)+(n:Int)) (n:Int) ai;have h3:=Int.tmod_lt_of_pos (i.tmod (n:Int)+(n:Int)) hn;unfold x7;omega
open Classical in
noncomputable def Gu(cs:List bx)(i:Int):aD:=if((jJ cs).2≠0∨cs.length=0)∨i= -7 then Jv i else(dK cs)[x7 i cs.length]?.getD aD.zero
noncomputable def nJ(cs:List bx)(so:List Int):List aD:=so.map (Gu cs)
theorem Y.J1{P:Program}{n:NN}{fr:Fr}{w:World}{ty:TypeId}{x y:Operand}{i:Int}{m:Nat}{t t':TypeId}(hx:ev fr x=some (.int .i64 (i.tmod (m:Int)+(m:Int))))(hy:ev fr y=some (.int .i64 (m:Int)))(h:0<m):Yw P n fr (.binOp .rem t x y t') ty w (.int .i64 (x7 i m:Int)) w:=by
 have h1:=Y.rem (P:=P) (n:=n) (w:=w) (ty:=ty) (t:=t) (t':=t') hx hy ai;rwa [(Dc h).1]at h1
theorem Hv{a b:Prop}{i:Int}(h:a):true=true↔(a∨b)∨i= -7:=⟨fun _=>.inl (.inl h),fun _=>rfl⟩
theorem Dj{a b:Prop}{i:Int}(h:b):true=true↔(a∨b)∨i= -7:=⟨fun _=>.inl (.inr h),fun _=>rfl⟩
theorem Fa{a b:Prop}{i:Int}(h:¬a)(h2:¬b):decide (i= -7)=true↔(a∨b)∨i= -7:=⟨fun h=>.inr (of_decide_eq_true h),fun hh=>decide_eq_true (hh.elim (fun e=>absurd e fun e=>e.elim h h2) id)⟩
theorem IP{cs:List bx}{ys:List gj}{i:Int}(hys:aQ ys=if(jJ cs).2=0 then bH cs else [])(h:((jJ cs).2≠0∨(ys.length:Int)=0)∨i= -7):Gu cs i=Jv i:=by
 rw [Gu,if_pos];rcases h with(h|h)|h
 ·exact .inl (.inl h)
 ·by_cases h0:(jJ cs).2=0
  ·rw [if_pos h0]at hys;have:=congrArg List.length hys;simp only [List.length_map]at this;exact .inl (.inr ai)
  ·exact .inl (.inl h0)
 ·exact .inr h
theorem uB{cs:List bx}{so:List Int}{x:Nat}{i:Int}(h:so[x]? =some i):cn (nJ cs (so.take (x+1)))=cn (nJ cs (so.take x))++aN (Gu cs i):=by
 show(List.map aN (List.map (Gu cs) (so.take (x+1)))).flatten=(List.map aN (List.map (Gu cs) (so.take x))).flatten++_;rw [take_succ h,List.map_append,List.map_append,List.flatten_append];simp only [List.map_cons,List.map_nil,List.flatten_cons,List.flatten_nil,List.append_nil]
theorem EJ(u v1:Value)(l:List jB)(so:List Int)(w:World)(hl:ua w u l)(hs:Sl w Il 1 v1 so)(hp:so.length*32≤140737488351232)(hK:Mem w ⟨1,0,none⟩ (dF eF)):Calls prog 4 #[u,v1] w (cB fun v w'=>Own w' pX 32 v (cn (nJ (bN l) so))∧(∀k,v.ownBlock=some k→w.heap.size≤k)∧Ext w w'):=by
 obtain⟨A1,m1,c1,rfl,hsm,hsc,hsx,hsg⟩:=id hs;unfold maxLen at hsx;refine ar 64 [4] [(0,u),(1,.slice A1 m1 c1)] func4 rfl rfl rfl aL cz ?_;have hE:Ext w w:=aE.refl;refine CW.sr fun K1 hK1=>WL.a rfl<|WL.nil (hK1 _ _ ?_);clear hK1;refine CW.sr fun K2 hK2=>WL.m rfl<|WL.call func9 rfl rfl rfl (sG _ l _ hl hK) aL ?_;rintro v11 w1 hR1;obtain⟨A,c,ys,rfl,hQ,hys,hx1⟩:=hR1;have hz1:=hx1.size;have hE0:=hx1;clear hE;have hE:Ext w1 w1:=aE.refl;refine WL.m rfl<|WL.v (Y.extract rfl rfl)<|WL.v (Y.extract rfl rfl)<|WL.a rfl<|WL.a rfl<|WL.nil (hK2 _ _ ?_);clear hK2;refine CW.sr fun K3 hK3=>WL.a rfl<|WL.nil (hK3 _ _ ?_);clear hK3;refine CW.seq fun K4 hK4=>CW.sr fun K5 hK5=>WL.a rfl<|WL.nil (hK5 _ _ ?_);clear hK5;refine CW.block ?_;refine CW.loop (X:=Nat×Value) (fun x=>[(1,.slice A1 m1 c1),(5,.slice A ys.length c),(6,.int .i64 (jJ (bN l)).2),(7,x.2),(8,.int .i64 (x.1:Int))]) (fun x w0=>x.1≤m1∧Own w0 pX 32 x.2 (cn (nJ (bN l) (so.take x.1)))∧(∀k,x.2.ownBlock=some k→w1.heap.size≤k)∧Ext w1 w0) (fun x=>m1-x.1) (0,.slice none 0 0) Fr.ok ⟨Nat.zero_le _,Own.nil,(fun k h=>by simp [Value.ownBlock]at h),hE⟩ ?_;intro x w2 hl2;clear hE;obtain⟨x,v⟩:=x;dsimp only at hl2⊢;obtain⟨hxm,hO,hfu,hE⟩:=hl2;have hzE:=hE.size;have hOlt:=hO.lt;have hOl:(nJ (bN l) (so.take x)).length=x:=by rw [nJ,List.length_map,List.length_take];omega
 refine CW.seq fun K6 hK6=>CW.sr fun K7 hK7=>WL.m rfl<|WL.m rfl<|WL.v (Y.aq underlying23 rfl)<|WL.v (Y.lss rfl rfl)<|WL.nil (hK7 _ _ ?_);clear hK7;refine bp ?_ ?_<;>intro ht8
 ·refine CW.skip ?_;refine hK6 _ _ ?_;clear hK6;obtain⟨i,hi⟩:∃i,so[x]? =some i:=⟨_,List.getElem?_eq_getElem ai⟩;obtain⟨a1,rfl,hma⟩:=hsg _ _ hi;refine CW.bK (X:=Value) (fun v=>[(1,.slice (some a1) m1 c1),(5,.slice A ys.length c),(6,.int .i64 (jJ (bN l)).2),(7,v),(8,.int .i64 (x:Int))]) (fun v w0=>Own w0 pX 32 v (cn (nJ (bN l) (so.take (x+1))))∧(∀k,v.ownBlock=some k→w1.heap.size≤k)∧Ext w1 w0) ?_ ?_
  ·refine CW.block<|CW.seq fun K10 hK10=>?_;refine CW.bS 33 (((jJ (bN l)).2≠0∨(ys.length:Int)=0)∨i= -7) ?_ ?_
   ·refine CW.region<|WL.m rfl<|WL.v (Y.neq rfl rfl)<|WL.m rfl ?_;refine dO ?_ ?_<;>intro hg22
    ·refine WL.o rfl rfl<|WL.o rfl rfl<|WL.o rfl rfl<|WL.v (Y.pick rfl rfl)<|WL.m rfl<|WL.o rfl rfl<|WL.o rfl rfl<|WL.o rfl rfl<|WL.o rfl rfl<|WL.o rfl rfl<|WL.v (Y.pick rfl rfl)<|WL.nil ⟨⟨_,rfl,?_⟩,rfl,Fr.cT⟩;first|exact Hv hg22|exact Dj hg27|exact Fa hg22 hg27
    ·refine WL.g rfl rfl (Y.move rfl)<|WL.g rfl rfl (Y.aq underlying38 rfl)<|WL.g rfl rfl (Y.eql rfl rfl)<|WL.v (Y.pick rfl rfl)<|WL.m rfl ?_;refine dO ?_ ?_<;>intro hg27
     ·refine WL.o rfl rfl<|WL.o rfl rfl<|WL.o rfl rfl<|WL.o rfl rfl<|WL.o rfl rfl<|WL.v (Y.pick rfl rfl)<|WL.nil ⟨⟨_,rfl,?_⟩,rfl,Fr.cT⟩;first|exact Hv hg22|exact Dj hg27|exact Fa hg22 hg27
     ·refine WL.g rfl rfl (Y.move rfl)<|WL.g rfl rfl (Y.move rfl)<|WL.g rfl rfl (Y.af underlying23 rfl rfl dq ai)<|WL.g rfl rfl (Y.ah underlying3 rfl (show _=some (.int .i64 i)from(hma.ext (hE0.ae hE)).cell0) rfl)<|WL.g rfl rfl (Y.eql rfl rfl)<|WL.v (Y.pick rfl rfl)<|WL.nil ⟨⟨_,rfl,?_⟩,rfl,Fr.cT⟩;first|exact Hv hg22|exact Dj hg27|exact Fa hg22 hg27
   refine bp ?_ ?_<;>intro ht11
   ·refine CW.sr fun K12 hK12=>WL.m rfl<|WL.m rfl<|WL.m rfl<|WL.v (Y.af underlying23 rfl rfl dq ai)<|WL.v (Y.ah underlying3 rfl (show _=some (.int .i64 i)from(hma.ext (hE0.ae hE)).cell0) rfl)<|WL.v (Y.de underlying3 underlying5 rfl)<|WL.v (Y.build rfl (Cd i _))<|WL.st (St.buildSlice rfl (kI (Jv i))) aw fun v41 w3 hR3=>?_;obtain⟨g41,rfl,hg41,hB41,hx3⟩:=hR3;have hz3:=hx3.size;have hE:=hE.ae hx3;refine WL.st (St.append (m:=1) underlying25 underlying25 fR rfl rfl (hO.ext hx3) (Fw.Src.one hB41 (ag _)) bV (by rw [aO ag,hOl];omega)) aw fun v42 w4 hR4=>?_;obtain⟨hO4,hc4,hf4⟩:=hR4;have hz4:=hc4.size;have hE:=hE.step hc4 (fun k h=>by have:=hfu k h;omega);have hfu4:∀k,v42.ownBlock=some k→w1.heap.size≤k:=fun k hk=>by
     rcases hf4 with h|h
     ·exact hfu k (h▸hk)
     ·have:=h k hk;omega
    refine WL.a rfl<|WL.nil (hK12 _ _ ?_);clear hK12;refine CW.exit ?_;have hpk:Gu (bN l) i=Jv i:=IP hys (by assumption);exact⟨v42,Fr.ok,by rw [uB hi,hpk];exact hO4,hfu4,hE⟩
   refine CW.skip ?_;refine hK10 _ _ ?_;clear hK10;have hno:¬(((jJ (bN l)).2≠0∨(ys.length:Int)=0)∨i= -7):=by assumption
   have h0:(jJ (bN l)).2=0:=Decidable.not_not.1 fun h=>hno (.inl (.inl h));rw [if_pos h0]at hys;have hyc:ys.length=(bN l).length:=by have:=congrArg List.length hys;simpa using this
   have hy0:0<ys.length:=Nat.pos_of_ne_zero fun h=>hno (.inl (.inr ai));have hrd:=Dc (i:=i) hy0;have htm:=yh (i:=i) (n:=(ys.length:Int)) ai;have hl2:=(lP.1 h0).1;obtain⟨y,hy⟩:∃y,ys[x7 i ys.length]? =some y:=⟨_,List.getElem?_eq_getElem hrd.2⟩;have hpk:Gu (bN l) i=y.n.id:=by
    rw [Gu,if_neg (fun h=>hno (h.imp (fun h=>h.imp id fun h=>by omega) id)),←hyc];have h1:(aQ ys)[x7 i ys.length]? =some y.n:=by simp [hy]
    rw [hys]at h1;have h2:(dK (bN l))[x7 i ys.length]? =some y.n.id:=by
     rw [←cR,bz,List.getElem?_map,h1];rfl
    rw [h2];rfl
   obtain⟨⟨yid,yps⟩,yA,yc⟩:=y;obtain⟨a3,rfl,hma3⟩:=hQ.yk.sl.at hy;refine CW.region<|WL.m rfl<|WL.m rfl<|WL.m rfl<|WL.m rfl<|WL.v (Y.af underlying23 rfl rfl dq ai)<|WL.v (Y.ah underlying3 rfl (show _=some (.int .i64 i)from(hma.ext (hE0.ae hE)).cell0) rfl)<|WL.m rfl<|WL.v (Y.aq underlying38 rfl)<|WL.v (Y.rem rfl rfl ai)<|WL.m rfl<|WL.v (Y.aq underlying38 rfl)<|WL.v (Y.add rfl rfl bB) ?_;refine WL.m rfl<|WL.v (Y.aq underlying38 rfl)<|WL.v (Y.J1 rfl rfl ai)<|WL.v (Y.af underlying38 rfl rfl cc hrd.2)<|WL.v (Y.fieldAddr dX rfl)<|WL.v (Y.load underlying42 rfl (hma3.ext hE).nC (aj _) rfl)<|WL.st (St.buildSlice rfl (kI yid)) aw fun v61 w5 hR5=>?_;obtain⟨g61,rfl,hg61,hB61,hx5⟩:=hR5;have hz5:=hx5.size;have hE:=hE.ae hx5;refine WL.st (St.append (m:=1) underlying25 underlying25 fR rfl rfl (hO.ext hx5) (Fw.Src.one hB61 (ag _)) bV (by rw [aO ag,hOl];omega)) aw fun v62 w6 hR6=>?_;obtain⟨hO6,hc6,hf6⟩:=hR6;have hz6:=hc6.size;have hE:=hE.step hc6 (fun k h=>by have:=hfu k h;omega);have hfu6:∀k,v62.ownBlock=some k→w1.heap.size≤k:=fun k hk=>by
    rcases hf6 with h|h
    ·exact hfu k (h▸hk)
    ·have:=h k hk;omega
   refine WL.a rfl<|WL.nil ?_;exact⟨v62,Fr.ok,by rw [uB hi,hpk];exact hO6,hfu6,hE⟩
  rintro u w7 hj7;clear hE;obtain⟨hO,hfu,hE⟩:=hj7;refine CW.region<|WL.m rfl<|WL.v (Y.add rfl rfl bB)<|WL.a rfl<|WL.nil ?_;exact⟨(x+1,u),by show m1-(x+1)<m1-x;omega,Fr.ok,by show x+1≤m1;omega,hO,hfu,hE⟩
 refine CW.exit ?_;refine hK4 _ _ ?_;clear hK4;refine CW.sr fun K13 hK13=>WL.m rfl<|WL.a rfl<|WL.nil (hK13 _ _ ?_);clear hK13;refine CW.ret ⟨_,rfl,?_⟩;have hxm2:x=m1:=by omega
 subst hxm2;rw [List.take_of_length_le ai]at hO;exact⟨hO,(fun k hk=>by have:=hfu k hk;omega),hE0.ae hE⟩
end Go.Proofs.YtmehkigmnpjcjaaGreatDoor
namespace Go.Fw
open Go.RowKit Go.WideShapes Go.ChangeShapes Go.ChangeAt Go.Deep
theorem yp{P:Program}{w:World}{base:Nat}{t e:TypeId}{m:Nat}{v:Value}(ht:P.underlying t=some (.array m e))(h:Value.okWide P w .any base t v):∃cs,v= .agg cs∧cs.size=P.cellsOf t:=by
 simp only [Value.okWide,ht]at h;obtain⟨cs,h1,h2,_⟩:=h;exact⟨cs,h1,h2⟩
end Go.Fw
namespace Go.Proofs.YtmehkigmnpjcjaaGreatDoor
open Go.RowKit Go.Fw Go.WideShapes Go.ChangeShapes Go.ChangeAt Go.Deep Go.Proofs.Tryz
structure Dr(w:World)(x:jB):Prop where
 at_:wt w x
 parents:x.c.parents.length*32≤reachBytes
 ops:x.c.ops.length*72≤reachBytes
theorem HB:gi prog 29 (fun w cs=>∃x:jB,cs=FF x∧Dr w x):=H4.mono fun w cs ⟨c,hc⟩=>by
 obtain⟨pv,ov,hv,hp,ho,ha,hn⟩:=hc.C1;obtain⟨A,ca,rfl,_⟩:=hp.lens;obtain⟨B,cb,rfl,_⟩:=ho.lens;refine⟨⟨c,A,ca,B,cb⟩,?_,⟨hp,ho,ha,hn⟩,hc.parents,hc.ops⟩;injection hv with hv
 have:=congrArg Array.toList hv;have e:cs=dt (.slice A c.parents.length ca) c.author c.note (.slice B c.ops.length cb):=by simpa using this
 exact e
theorem Ev:prog.bytesOf 29=80:=by kernel_rfl
theorem Ht:gi prog 22 (fun w cs=>∃v xs,cs=[v]∧Sl w FF 4 v xs∧xs.length*prog.bytesOf 29≤reachBytes∧∀(i:Nat) x,xs[i]? =some x→Dr w x):=
 gi.slice (Q:=fun w x=>Dr w x) underlying22 aG yw HB
theorem y3(i:Int):(Il i).length=1:=rfl
theorem FZ:gi prog 23 (fun w cs=>∃v xs,cs=[v]∧Sl w Il 1 v xs∧xs.length*prog.bytesOf 3≤reachBytes∧∀(i:Nat) x,xs[i]? =some x→True):=
 gi.slice (Q:=fun _ _=>True) underlying23 aG y3 ((gi.int underlying3).mono fun w cs ⟨i,h⟩=>⟨i,h.1,trivial⟩)
section
variable {H:Type} {en:TypeId×Value→H} {w:World} {v:Value} {d:DataW H} {ps:List MemPlace} {base:Nat}
set_option maxRecDepth 100000 in
theorem F9(hv:Value.okWide prog w .any base 22 v)(h:DataW.Trod en prog w 0 (fun _=>true) true 22 v d ps)(hw:∀n∈d.weights prog 22,n≤reachBytes):
  ∃xs,ua w v xs∧xs.length*80≤reachBytes∧∀x∈xs,Dr w x:=by
 obtain⟨u,xs,hs,hb,hl,hq⟩:=Ht.arg h hw;obtain⟨a,m,c,rfl⟩:=okWide_slice underlying22 hv;simp [Value.cells]at hs;subst hs;rw [Ev]at hl;have hget:∀x∈xs,Dr w x:=fun x hx=>by
  obtain⟨i,hi⟩:=List.mem_iff_getElem?.1 hx;exact hq i x hi
 exact⟨xs,⟨hb,fun x hx=>(hget x hx).at_⟩,hl,hget⟩
set_option maxRecDepth 100000 in
theorem DW(hv:Value.okWide prog w .any base 23 v)(h:DataW.Trod en prog w 0 (fun _=>true) true 23 v d ps)(hw:∀n∈d.weights prog 23,n≤reachBytes):
  ∃xs,Sl w Il 1 v xs:=by
 obtain⟨u,xs,hs,hb,hl,_⟩:=FZ.arg h hw;obtain⟨a,m,c,rfl⟩:=okWide_slice underlying23 hv;simp [Value.cells]at hs;subst hs;exact⟨xs,hb⟩
theorem D8{xs:List Int}(h:DataW.Trod en prog w 0 (fun _=>true) true 23 v d ps)(hs:Sl w Il 1 v xs):xs.length≤Rows.uptoBulk d:=by
 obtain⟨A,c,rfl,_⟩:=hs.lens;obtain⟨fuel,hf⟩:=h;exact sQ underlying23 hf
theorem GB{xs:List jB}(h:DataW.Trod en prog w 0 (fun _=>true) true 22 v d ps)(hs:ua w v xs):xs.length≤Rows.uptoBulk d:=by
 obtain⟨A,c,rfl,_⟩:=hs.sl.lens;obtain⟨fuel,hf⟩:=h;exact sQ underlying22 hf
end
end Go.Proofs.YtmehkigmnpjcjaaGreatDoor
namespace Go.Proofs.YtmehkigmnpjcjaaGreatDoor
open Go.RowKit Go.Fw Go.WideShapes Go.ChangeShapes Go.ChangeAt Go.Deep Go.Proofs.Tryz
theorem Fz:gi prog 24 (fun w cs=>∃a b c:ByteArray,cs=[.string a,.string b,.string c]∧a.size≤reachBytes∧b.size≤reachBytes∧c.size≤reachBytes):=
 (gi.Ek underlying24 aG aG (gi.string underlying9)).mono fun w cs ⟨hl,hg⟩=>by
  match cs,hl,hg with
  | [v0,v1,v2],_,hg=>
   obtain⟨a,h0,hs0⟩:=hg 0 v0 rfl;obtain⟨b,h1,hs1⟩:=hg 1 v1 rfl;obtain⟨c,h2,hs2⟩:=hg 2 v2 rfl;cases h0;cases h1;cases h2
   exact⟨a,b,c,rfl,hs0,hs1,hs2⟩
section
variable {H:Type} {en:TypeId×Value→H} {w:World} {v:Value} {d:DataW H} {ps:List MemPlace} {base:Nat}
set_option maxRecDepth 100000 in
theorem CZ(hv:Value.okWide prog w .any base 24 v)(h:DataW.Trod en prog w 0 (fun _=>true) true 24 v d ps)(hw:∀n∈d.weights prog 24,n≤reachBytes):
  ∃a b c:ByteArray,v= .agg #[.string a,.string b,.string c]∧a.size≤reachBytes∧b.size≤reachBytes∧c.size≤reachBytes:=by
 obtain⟨a,b,c,hs,hr⟩:=Fz.arg h hw;obtain⟨cs,rfl,_⟩:=yp underlying24 hv;refine⟨a,b,c,?_,hr⟩;have:cs.toList=[.string a,.string b,.string c]:=by simpa [Value.cells]using hs
 congr 1;exact Array.ext' (by simpa using this)
end
end Go.Proofs.YtmehkigmnpjcjaaGreatDoor
namespace Go.Fu
open Go.Pl Go.Fw
def DJ(x:UInt8)(f:List UInt8→Nat)(m:Nat):List UInt8→Nat
 | []=>m
 |y::b=>if x=y then f b else 1+min (f (y::b)) (DJ x f m b)
def iY:List UInt8→List UInt8→Nat
 | []=>fun b=>b.length
 |x::a=>DJ x (iY a) (a.length+1)
theorem rK(b:List UInt8):iY [] b=b.length:=rfl
theorem pN(a:List UInt8):iY a []=a.length:=by cases a<;>rfl
theorem lu(x y:UInt8)(a b:List UInt8):iY (x::a) (y::b)=if x=y then iY a b else 1+min (iY a (y::b)) (iY (x::a) b):=rfl
theorem qt:∀(a b:List UInt8),iY a b≤a.length+b.length
 | [],b=>by rw [rK];simp
 |x::a,b=>by
  induction b with
  |nil=>rw [pN];simp
  |cons y b ih=>
   rw [lu];have h1:=qt a b;have h2:=qt a (y::b);simp only [List.length_cons]at*;split<;>omega
inductive iG where
 |mw
 |cut
 |put (y:UInt8)
def iG.kind:iG→Nat
 | .mw=>1
 | .cut=>2
 | .put _=>3
def Em(x:UInt8)(a:List UInt8)(f:List UInt8→List iG):List UInt8→List iG
 | []=>.cut::f []
 |y::b=>if x=y then .mw::f b else if iY a (y::b)≤iY (x::a) b then .cut::f (y::b)else .put y::Em x a f b
def uY:List UInt8→List UInt8→List iG
 | []=>fun b=>b.map .put
 |x::a=>Em x a (uY a)
theorem pc(b:List UInt8):uY [] b=b.map .put:=rfl
theorem rI(x:UInt8)(a:List UInt8):uY (x::a) []= .cut::uY a []:=rfl
theorem ly(x y:UInt8)(a b:List UInt8):uY (x::a) (y::b)=if x=y then .mw::uY a b else if iY a (y::b)≤iY (x::a) b then .cut::uY a (y::b)else .put y::uY (x::a) b:=rfl
structure dm where
 kind:Nat
 n:Nat
 text:List UInt8
def dm.more(e:dm):iG→dm
 | .put y=>⟨e.kind,e.n,e.text++[y]⟩
 |_=>⟨e.kind,e.n+1,e.text⟩
def cL(l:List dm)(k:Nat):List dm:=if l.getLast?.map dm.kind=some k then l else l++[⟨k,0,[]⟩]
theorem kq(l:List dm)(k:Nat):∃e,(cL l k)[(cL l k).length-1]? =some e∧e.kind=k:=by
 unfold cL;split
 ·rename_i h;rw [List.getLast?_eq_getElem?]at h;obtain⟨e,he,hk⟩:=Option.map_eq_some_iff.1 h;exact⟨e,he,hk⟩
 ·exact⟨⟨k,0,[]⟩,by simp,rfl⟩
def fZ(l:List dm)(s:iG):List dm:=(cL l s.kind).modify ((cL l s.kind).length-1) fun e=>e.more s
theorem kN(l:List dm)(s:iG):(fZ l s).length=(cL l s.kind).length:=by simp [fZ]
theorem gq(l:List dm)(k:Nat):(cL l k).length≤l.length+1∧l.length≤(cL l k).length:=by
 unfold cL;split<;>simp
def cj(a b:List UInt8):List dm:=(uY a b).foldl fZ []
def dm.over(e:dm):Nat:=if e.kind=3 then 0 else e.n
def eW(l:List dm):Nat:=(l.map dm.over).sum
def iG.over:iG→Nat
 | .put _=>0
 |_=>1
def dm.cost(e:dm):Nat:=if e.kind=1 then 0 else e.n+e.text.length
def gz(l:List dm):Nat:=(l.map dm.cost).sum
def iG.cost:iG→Nat
 | .mw=>0
 |_=>1
def dm.Cp(e:dm):Prop:=(e.kind=1∨e.kind=2)∧0<e.n∧e.text=[]∨e.kind=3∧e.n=0∧e.text≠[]
theorem oD{f:dm→Nat}{g:dm→dm}:∀{l:List dm} {i:Nat} {e:dm},l[i]? =some e→((l.modify i g).map f).sum+f e=(l.map f).sum+f (g e)
 | [],i,e,h=>by simp at h
 |x::r,0,e,h=>by
  simp at h;subst h;simp only [List.modify_zero_cons,List.map_cons,List.sum_cons];omega
 |x::r,i+1,e,h=>by
  simp only [List.getElem?_cons_succ]at h;have:=oD (f:=f) (g:=g) h;simp only [List.modify_succ_cons,List.map_cons,List.sum_cons];omega
theorem zO(l:List dm)(k:Nat):eW (cL l k)=eW l:=by
 unfold cL eW;split
 ·rfl
 ·simp [dm.over]
theorem zY(l:List dm)(k:Nat):gz (cL l k)=gz l:=by
 unfold cL gz;split
 ·rfl
 ·simp [dm.cost]
theorem CB(l:List dm)(s:iG):eW (fZ l s)=eW l+s.over:=by
 obtain⟨e,he,hk⟩:=kq l s.kind;have h:=oD (f:=dm.over) (g:=fun e=>e.more s) he;have h2:=zO l s.kind;unfold eW at h2⊢;unfold fZ;have h3:(e.more s).over=e.over+s.over:=by
  cases s<;>simp [dm.more,dm.over,iG.over,iG.kind]at hk⊢<;>simp [hk]
 omega
theorem Ct(l:List dm)(s:iG):gz (fZ l s)=gz l+s.cost:=by
 obtain⟨e,he,hk⟩:=kq l s.kind;have h:=oD (f:=dm.cost) (g:=fun e=>e.more s) he;have h2:=zY l s.kind;unfold gz at h2⊢;unfold fZ;have h3:(e.more s).cost=e.cost+s.cost:=by
  cases s<;>simp [dm.more,dm.cost,iG.cost,iG.kind]at hk⊢<;>simp [hk]<;>omega
 omega
theorem zW(l:List dm)(ss:List iG):eW (ss.foldl fZ l)=eW l+(ss.map iG.over).sum:=by
 induction ss generalizing l with
 |nil=>simp
 |cons s r ih=>rw [List.foldl_cons,ih,CB];simp;omega
theorem yx(l:List dm)(ss:List iG):gz (ss.foldl fZ l)=gz l+(ss.map iG.cost).sum:=by
 induction ss generalizing l with
 |nil=>simp
 |cons s r ih=>rw [List.foldl_cons,ih,Ct];simp;omega
theorem pL:∀(a b:List UInt8),((uY a b).map iG.over).sum=a.length
 | [],b=>by
  rw [pc];induction b with
  |nil=>rfl
  |cons y b ih=>simpa [iG.over]using ih
 |x::a,b=>by
  induction b with
  |nil=>rw [rI,List.map_cons,List.sum_cons,pL a []];simp [iG.over];omega
  |cons y b ih=>
   rw [ly];split
   ·rw [List.map_cons,List.sum_cons,pL a b];simp [iG.over];omega
   ·split
    ·rw [List.map_cons,List.sum_cons,pL a (y::b)];simp [iG.over];omega
    ·rw [List.map_cons,List.sum_cons,ih];simp [iG.over]
theorem qV(a b:List UInt8):eW (cj a b)=a.length:=by
 rw [cj,zW,pL];simp [eW]
theorem o4:∀(a b:List UInt8),((uY a b).map iG.cost).sum=iY a b
 | [],b=>by
  rw [pc,rK];induction b with
  |nil=>rfl
  |cons y b ih=>simp [iG.cost]at ih⊢;omega
 |x::a,b=>by
  induction b with
  |nil=>rw [rI,List.map_cons,List.sum_cons,o4 a [],pN,pN];simp [iG.cost];omega
  |cons y b ih=>
   rw [ly,lu];split
   ·rw [List.map_cons,List.sum_cons,o4 a b];simp [iG.cost]
   ·split
    ·rw [List.map_cons,List.sum_cons,o4 a (y::b)];simp [iG.cost];omega
    ·rw [List.map_cons,List.sum_cons,ih];simp [iG.cost];omega
theorem wT(a b:List UInt8):gz (cj a b)=iY a b:=by
 rw [cj,yx,o4];simp [gz]
theorem zN(a b:List UInt8):(uY a b).length≤a.length+b.length:=by
 induction a generalizing b with
 |nil=>rw [pc];simp
 |cons x a iha=>
  induction b with
  |nil=>rw [rI];have:=iha [];simp at this⊢;omega
  |cons y b ih=>
   rw [ly];have h1:=iha b;have h2:=iha (y::b);simp only [List.length_cons]at*;split
   ·simp only [List.length_cons];omega
   ·split<;>simp only [List.length_cons]<;>omega
theorem vQ(l:List dm)(ss:List iG):(ss.foldl fZ l).length≤l.length+ss.length:=by
 induction ss generalizing l with
 |nil=>simp
 |cons s r ih=>
  rw [List.foldl_cons];have h1:=ih (fZ l s);have h2:=kN l s;have h3:=(gq l s.kind).1;rw [List.length_cons];omega
theorem nN(a b:List UInt8):(cj a b).length≤a.length+b.length:=by
 have h1:=vQ [] (uY a b);have h2:=zN a b;simp only [List.length_nil]at h1;unfold cj;omega
theorem Fy{l:List dm}(h:∀e∈l,e.Cp)(s:iG):∀e∈fZ l s,e.Cp:=by
 have hin:∀e∈cL l s.kind,e.Cp∨e=⟨s.kind,0,[]⟩:=fun e he=>by
  unfold cL at he;split at he
  ·exact .inl (h e he)
  ·rcases List.mem_append.1 he with he|he
   ·exact .inl (h e he)
   ·simp at he;exact .inr he
 intro e he;obtain⟨i,hi⟩:=List.mem_iff_getElem?.1 he;unfold fZ at hi;rw [List.getElem?_modify]at hi;obtain⟨x,hx,rfl⟩:=Option.map_eq_some_iff.1 hi;by_cases hl:(cL l s.kind).length-1=i
 ·rw [if_pos hl];obtain⟨y,hy,hk⟩:=kq l s.kind;rw [hl,hx]at hy;obtain rfl:=Option.some.inj hy;rcases hin x (List.mem_of_getElem? hx)with hm|rfl
  ·cases s<;>simp [iG.kind]at hk<;>unfold dm.Cp dm.more at* <;>simp_all
  ·cases s<;>unfold dm.Cp dm.more<;>simp [iG.kind]
 ·rw [if_neg hl];rcases hin x (List.mem_of_getElem? hx)with hm|rfl
  ·exact hm
  ·exfalso;unfold cL at hx hl;split at hx
   ·rename_i hc;have hm:=h _ (List.mem_of_getElem? hx);unfold dm.Cp at hm;simp at hm
   ·rename_i hc;rw [if_neg hc]at hl;have hm:∀e∈l,e.Cp:=h;rw [List.getElem?_append]at hx;split at hx
    ·have:=h _ (List.mem_of_getElem? hx);unfold dm.Cp at this;simp at this
    ·have:=(List.getElem?_eq_some_iff.1 hx).1;simp at this hl;omega
theorem oM(a b:List UInt8):∀e∈cj a b,e.Cp:=by
 have:∀(ss:List iG) (l:List dm),(∀e∈l,e.Cp)→∀e∈ss.foldl fZ l,e.Cp:=fun ss=>by
  induction ss with
  |nil=>exact fun l h=>h
  |cons s r ih=>exact fun l h=>ih _ (Fy h s)
 exact this _ [] (fun e h=>by cases h)
structure wV where
 at_:Nat
 kept:Nat
 out:List ct
def fG(g:aF×Bool×Bool)(n:Nat)(s:List UInt8):List ct:=s.mapIdx fun k b=>if k=0 then⟨1,g.2.1,g.1,b⟩else⟨1,false,⟨true,aD.zero,((n+k:Nat):Int)⟩,b⟩
def qb(e:List El)(at_ n:Nat):List ct:=(((bf e).drop at_).take n).map fun q=>⟨2,false,nm e q,0⟩
def mn(e:List El)(s:wV)(x:dm):wV:=
 if x.kind=1 then⟨s.at_+x.n,s.at_+x.n,s.out⟩
 else if x.kind=2 then⟨s.at_+x.n,s.kept,s.out++qb e s.at_ x.n⟩
 else⟨s.at_,s.kept,s.out++fG (c4 e (s.kept:Int)) s.out.length x.text⟩
def Al(e:List El)(b:List UInt8):List ct:=((cj (bZ e) b).foldl (mn e) ⟨0,0,[]⟩).out
structure ky where
 c:aD
 n:Nat
noncomputable def pU(l:List ky)(d:aD):List ky:=if l.getLast?.map ky.c=some d then l.modify (l.length-1) fun r=>⟨r.c,r.n+1⟩else l++[⟨d,1⟩]
noncomputable def vU(e:List El):List ky:=((bf e).map fun q=>(nm e q).c).foldl pU []
end Go.Fu
