/- Parts of a proof: what its last text leans on. No condition. -/
import Derived.Test.YtmehkigmnpjcjaaGreatDoorK35
set_option linter.unusedSimpArgs false
set_option linter.unusedVariables false
namespace Go.Fw
open Go.RowKit Go.Fu
theorem E9{g:aF×Bool×Bool}{n k:Nat}(h:k≠0):mq g n k=⟨true,aD.zero,((n+k:Nat):Int)⟩∧sk g k=false:=by
 cases k with
 |zero=>exact absurd rfl h
 |succ k=>exact⟨rfl,rfl⟩
theorem vV(e:List El)(b:List UInt8):aU e b 0=⟨0,0,[]⟩:=by simp [aU]
theorem zF{e:List El}{b:List UInt8}{k:Nat}{x:dm}(h:(cj (bZ e) b)[k]? =some x)(hk:x.kind=1):(aU e b (k+1)).at_=(aU e b k).at_+x.n∧(aU e b (k+1)).kept=(aU e b k).at_+x.n∧(aU e b (k+1)).out=(aU e b k).out:=by
 rw [lR h,mn,if_pos hk];exact⟨rfl,rfl,rfl⟩
theorem Bw{e:List El}{b:List UInt8}{k:Nat}{x:dm}(h:(cj (bZ e) b)[k]? =some x)(hk:x.kind=2):(aU e b (k+1)).at_=(aU e b k).at_+x.n∧(aU e b (k+1)).kept=(aU e b k).kept∧(aU e b (k+1)).out=(aU e b k).out++kF ((bf e).map (nm e)) (aU e b k).at_ x.n:=by
 rw [lR h,mn,if_neg ai,if_pos hk];exact⟨rfl,rfl,by simp [qb,kF,←List.map_drop,←List.map_take,Function.comp_def]⟩
theorem Cq{e:List El}{b:List UInt8}{k:Nat}{x:dm}(h:(cj (bZ e) b)[k]? =some x)(hk:x.kind=3):(aU e b (k+1)).at_=(aU e b k).at_∧(aU e b (k+1)).kept=(aU e b k).kept∧(aU e b (k+1)).out=(aU e b k).out++fG (c4 e ((aU e b k).kept:Int)) (aU e b k).out.length x.text:=by
 rw [lR h,mn,if_neg ai,if_neg ai];exact⟨rfl,rfl,rfl⟩
end Go.Fw
namespace Go.Proofs.YtmehkigmnpjcjaaGreatDoor
open Go.RowKit Go.Fw Go.Fu Go.Pl Go.Proofs.Tryz
attribute [local irreducible] Go.Fu.aU
theorem GX(b:UInt8)(r:aF)(w:World):(Instr.build 64 [(0,Value.int .i64 1),(3,Value.int .u8 (b.toNat:Int)),(2,dE r)].toArray).run prog w= .ok (.agg (eM ⟨1,false,r,b⟩).toArray) w:=run_build w _ _ _ (by
 have hb:∀parts,prog.built 64 parts=Instr.fill (fun i=>#[(0,1),(1,1),(2,34),(36,1)][i]?) (eM ⟨0,false,aF.zero,0⟩).toArray parts:=fun parts=>by kernel_rfl
 show prog.built _ [(0,Value.int .i64 1),(3,Value.int .u8 (b.toNat:Int)),(2,dE r)]=_;rw [hb];have e0:eM ⟨0,false,aF.zero,0⟩=[]++[Value.int .i64 0]++([Value.bool false]++aX aF.zero++[bc 0]):=rfl;rw [e0,bM [] [Value.int .i64 0] ([Value.bool false]++aX aF.zero++[bc 0]) [.int .i64 1] rfl rfl rfl rfl];have e1:[]++[Value.int .i64 1]++([Value.bool false]++aX aF.zero++[bc 0])=([Value.int .i64 1,.bool false]++aX aF.zero)++[bc 0]++[]:=by simp
 rw [e1,bM ([Value.int .i64 1,.bool false]++aX aF.zero) [bc 0] [] [.int .u8 (b.toNat:Int)] rfl rfl rfl (by rw [List.length_append,ax];rfl)];have e2:([Value.int .i64 1,.bool false]++aX aF.zero)++[.int .u8 (b.toNat:Int)]++[]=[Value.int .i64 1,.bool false]++aX aF.zero++[.int .u8 (b.toNat:Int)]:=by simp
 rw [e2,bM [Value.int .i64 1,.bool false] (aX aF.zero) [.int .u8 (b.toNat:Int)] (aX r) (by rw [ax];rfl) rfl (by rw [ax,ax]) rfl,Instr.fill];simp [eM,bc])
set_option maxRecDepth 100000 in
set_option maxHeartbeats 4000000 in
theorem DQ(g:Nat)(ad:List aD)(rs:List Rn)(av ev_:Value)(b:List UInt8)(w:World)(hR:ey w g ad rs av ev_)(hG:Fu.Good (ay rs))(hn:rs.length≤400001)(hb:b.length<4611686018427387904):Calls prog 17 #[.pointer (some ⟨g,0,none⟩),.string (bs b)] w (cB fun v w'=>∃u,v= .tuple #[u,.int .i64 (hZ (bZ (ay rs)) b:Int)]∧Own w' DY 37 u (jF (tW (ay rs) b))∧(∀q,u.ownBlock=some q→w.heap.size≤q)∧Ext w w'):=by
 obtain⟨A,m,c,rfl⟩:=hR.es.lens;have hsl:=hR.sl;have hel:(ay rs).length=rs.length:=List.length_map _;have hmm:rs.length=m∧m≤c∧c≤maxLen:=by
  obtain⟨A',m',c',e,h1,h2,h3,_⟩:=hsl;injection e with e1 e2 e3
  exact⟨by omega,by omega,by omega⟩
 unfold maxLen at hmm;have hat:∀i x,rs[i]? =some x→∃a,A=some a∧Mem w (a.add (i*38)) (rC x):=fun i x hx=>hsl.get hx;have hxe:∀(i:Nat) (x:Rn),rs[i]? =some x→(ay rs)[i]? =some x.el:=fun i x hx=>by rw [List.getElem?_map,hx];rfl
 have hpos:=hG.pos;obtain⟨x0,hx0⟩:∃x,rs[0]? =some x:=⟨_,List.getElem?_eq_getElem ai⟩;obtain⟨EA,hEA,_⟩:=hat 0 x0 hx0;subst hEA;have hme:∀i x,rs[i]? =some x→Mem w (EA.add (i*38)) (rC x):=fun i x hx=>by
  obtain⟨a,ha,h⟩:=hat i x hx;cases ha;exact h
 have htl:(bZ (ay rs)).length=(bf (ay rs)).length:=by simp [bZ]
 have hsn:(bf (ay rs)).length≤400001:=by
  have hol:(bO (ay rs)).length=rs.length:=by
   have:=hG.perm.length_eq;rwa [List.length_range,hel]at this
  have:(bf (ay rs)).length≤(bO (ay rs)).length:=List.length_filter_le _ _;omega
 refine ar 128 [4,5] [(0,.pointer (some ⟨g,0,none⟩)),(1,.string (bs b))] func17 rfl rfl rfl aL cz ?_;have hE:Ext w w:=aE.refl;refine CW.sr fun K1 hK1=>WL.a rfl<|WL.a rfl<|WL.nil (hK1 _ _ ?_);clear hK1;refine CW.sr fun K2 hK2=>WL.m rfl<|WL.call func41 rfl rfl rfl (Bk g ad rs av _ _ (hR.ext hE) hG hn) aL ?_;rintro v w1 ⟨rfl,hx1⟩;have hz1:=hx1.size;have hE:=hE.ae hx1;refine WL.m rfl<|WL.call func40 rfl rfl rfl (Bm (bZ (ay rs)) b _ ai hb) aL ?_;rintro v23 w2 hR2;obtain⟨lv,rfl,hOl,hf2,hx2⟩:=hR2;have hz2:=hx2.size;have hE:=hE.ae hx2;refine WL.m rfl<|WL.v (Y.extract rfl rfl)<|WL.v (Y.extract rfl rfl)<|WL.a rfl<|WL.a rfl<|WL.nil (hK2 _ _ ?_);clear hK2;refine CW.seq fun K3 hK3=>CW.sr fun K4 hK4=>WL.m rfl<|WL.v (Y.neq rfl rfl)<|WL.nil (hK4 _ _ ?_);clear hK4;refine bp ?_ ?_<;>intro ht5
 ·refine CW.sr fun K6 hK6=>WL.m rfl<|WL.a rfl<|WL.a rfl<|WL.nil (hK6 _ _ ?_);clear hK6;refine CW.ret ⟨_,rfl,?_⟩;have h0:hZ (bZ (ay rs)) b≠0:=fun h=>absurd (by rw [h];rfl) ht5;exact⟨_,rfl,(by rw [tW,if_neg h0];exact Own.nil),(fun q h=>by simp [Value.ownBlock]at h),hE⟩
 refine CW.skip ?_;refine hK3 _ _ ?_;clear hK3;have hok:hZ (bZ (ay rs)) b=0:=by omega
 obtain⟨hmk,hl1,hl2⟩:=z8 hok;rw [hmk]at hOl;obtain⟨lA,lm,lc,rfl⟩:=hOl.lens;have hlm:=(hOl.len gS aw).1;have hll:lm≤2000:=by have:=nN (bZ (ay rs)) b;omega
 refine CW.sr fun K7 hK7=>WL.m rfl<|WL.call func42 rfl rfl rfl (p9 g ad rs av _ _ (hR.ext hE) hG hn) aL ?_;rintro v30 w3 hR3;obtain⟨hOS,hfS,hxS⟩:=hR3;have hzS:=hxS.size;obtain⟨SA,Sm,Sc,rfl⟩:=hOS.lens;obtain⟨hlmS,hlgS⟩:=ik hOS;have hE3:=hE.ae hxS;have hE:=hE3;refine WL.a rfl<|WL.nil (hK7 _ _ ?_);clear hK7;refine CW.sr fun K8 hK8=>WL.a rfl<|WL.nil (hK8 _ _ ?_);clear hK8;refine CW.sr fun K9 hK9=>WL.a rfl<|WL.nil (hK9 _ _ ?_);clear hK9;refine CW.sr fun K10 hK10=>WL.a rfl<|WL.nil (hK10 _ _ ?_);clear hK10;refine CW.seq fun K11 hK11=>CW.sr fun K12 hK12=>WL.a rfl<|WL.nil (hK12 _ _ ?_);clear hK12;refine CW.block ?_;refine CW.loop (X:=Nat×Value) (fun x=>[(0,.pointer (some ⟨g,0,none⟩)),(6,.slice lA lm lc),(8,.slice SA Sm Sc),(9,.int .i64 ((aU (ay rs) b x.1).at_:Int)),(10,.int .i64 ((aU (ay rs) b x.1).kept:Int)),(11,x.2),(12,.int .i64 (x.1:Int))]) (fun x w0=>x.1≤lm∧Ext w3 w0∧Own w0 DY 37 x.2 (jF (aU (ay rs) b x.1).out)∧∀q,x.2.ownBlock=some q→w3.heap.size≤q) (fun x=>lm-x.1) (0,.slice none 0 0) (by repeat (first|exact Fr.le.nil|refine Fr.le.cons rfl ?_|refine Fr.le.cons (by show _=some (Value.int .i64 (((aU (ay rs) b 0).at_:Nat):Int));rw [vV];rfl) ?_|refine Fr.le.cons (by show _=some (Value.int .i64 (((aU (ay rs) b 0).kept:Nat):Int));rw [vV];rfl) ?_)) ⟨Nat.zero_le _,aE.refl,(by rw [vV];exact Own.nil),fun q h=>by simp [Value.ownBlock]at h⟩ ?_;intro x w4 hl4;obtain⟨i,ov⟩:=x;obtain⟨hi,hL,hO,hf⟩:=hl4;dsimp only at hi hO hf⊢;have hE:=hE3.ae hL;have hzL:=hL.size;refine CW.seq fun K13 hK13=>CW.sr fun K14 hK14=>WL.m rfl<|WL.m rfl<|WL.v (Y.aq underlying83 rfl)<|WL.v (Y.lss rfl rfl)<|WL.nil (hK14 _ _ ?_);clear hK14;refine bp ?_ ?_<;>intro ht15
 ·refine CW.skip ?_;refine hK13 _ _ ?_;clear hK13;obtain⟨ed,hed⟩:∃ed,(cj (bZ (ay rs)) b)[i]? =some ed:=⟨_,List.getElem?_eq_getElem ai⟩;have hov:=sP hed;have hco:=sq hed;have hovr9:ed.kind=3∨ed.over=ed.n:=by
   rcases Decidable.em (ed.kind=3)with h|h
   ·exact .inl h
   ·right;unfold dm.over;rw [if_neg h]
  have hki:=(qj (ay rs) b i).kept;have hmay:=oM _ _ ed (List.mem_of_getElem? hed);have hbs:=bT ed.text;obtain⟨la,hla,hme3⟩:=((hOl.ext hxS).sl gS aw).get hed;subst hla;have hmeW:∀W,Ext w3 W→Mem W (la.add (i*3)) (my ed):=fun W hW=>hme3.ext hW;refine CW.bK (X:=Value) (fun v=>[(0,.pointer (some ⟨g,0,none⟩)),(6,.slice (some la) lm lc),(8,.slice SA Sm Sc),(9,.int .i64 ((aU (ay rs) b (i+1)).at_:Int)),(10,.int .i64 ((aU (ay rs) b (i+1)).kept:Int)),(11,v),(12,.int .i64 (i:Int))]) (fun v w0=>Ext w3 w0∧Own w0 DY 37 v (jF (aU (ay rs) b (i+1)).out)∧∀q,v.ownBlock=some q→w3.heap.size≤q) ?_ ?_
  ·refine CW.block<|CW.sr fun K17 hK17=>WL.m rfl<|WL.m rfl<|WL.v (Y.af underlying83 rfl rfl b4 ai)<|WL.v (Y.fieldAddr kJ rfl)<|WL.v (Y.ah underlying3 rfl ((hmeW _ hL).o6) rfl)<|WL.nil (hK17 _ _ ?_);clear hK17;refine CW.block<|CW.sr fun K18 hK18=>WL.v (Y.eql rfl rfl)<|WL.a rfl<|WL.nil (hK18 _ _ ?_);clear hK18;refine bp ?_ ?_<;>intro ht19
   ·refine CW.sr fun K20 hK20=>WL.m rfl<|WL.m rfl<|WL.m rfl<|WL.v (Y.af underlying83 rfl rfl b4 ai)<|WL.v (Y.fieldAddr eC rfl)<|WL.v (Y.ah underlying3 rfl ((hmeW _ hL).ko) rfl)<|WL.v (Y.add rfl rfl bB)<|WL.a rfl<|WL.nil (hK20 _ _ ?_);clear hK20;refine CW.region<|WL.m rfl<|WL.a rfl<|WL.nil ?_;obtain⟨ha1,hk1,ho1⟩:=zF hed ai;exact⟨ov,(by repeat (first|exact Fr.le.nil|refine Fr.le.cons rfl ?_|refine Fr.le.cons (by show some (Value.int .i64 _)=some (Value.int .i64 _);congr 2;omega) ?_)),hL,(by rw [ho1];exact hO),hf⟩
   refine CW.sr fun K21 hK21=>WL.v (Y.eql rfl rfl)<|WL.a rfl<|WL.nil (hK21 _ _ ?_);clear hK21;refine bp ?_ ?_<;>intro ht22
   ·refine CW.seq fun K23 hK23=>CW.sr fun K24 hK24=>WL.a rfl<|WL.nil (hK24 _ _ ?_);clear hK24;refine CW.block ?_;refine CW.loop (X:=Nat×Value) (fun x=>[(0,.pointer (some ⟨g,0,none⟩)),(6,.slice (some la) lm lc),(8,.slice SA Sm Sc),(9,.int .i64 ((aU (ay rs) b i).at_:Int)),(10,.int .i64 ((aU (ay rs) b i).kept:Int)),(11,x.2),(12,.int .i64 (i:Int)),(13,.int .i64 (x.1:Int))]) (fun x w0=>x.1≤ed.n∧Ext w3 w0∧Own w0 DY 37 x.2 (jF ((aU (ay rs) b i).out++kF ((bf (ay rs)).map (nm (ay rs))) (aU (ay rs) b i).at_ x.1))∧∀q,x.2.ownBlock=some q→w3.heap.size≤q) (fun x=>ed.n-x.1) (0,ov) Fr.ok ⟨Nat.zero_le _,hL,(by simpa [kF]using hO),hf⟩ ?_;intro x w5 hl5;have hovr:ed.over=ed.n:=by unfold dm.over;rw [if_neg ai]
    obtain⟨k,ov2⟩:=x;obtain⟨hk,hL2,hO2,hf2⟩:=hl5;dsimp only at hk hO2 hf2⊢;have hE:=hE3.ae hL2;have hzL2:=hL2.size;refine CW.seq fun K25 hK25=>CW.sr fun K26 hK26=>WL.m rfl<|WL.m rfl<|WL.m rfl<|WL.v (Y.af underlying83 rfl rfl b4 ai)<|WL.v (Y.fieldAddr eC rfl)<|WL.v (Y.ah underlying3 rfl ((hmeW _ hL2).ko) rfl)<|WL.v (Y.lss rfl rfl)<|WL.nil (hK26 _ _ ?_);clear hK26;refine bp ?_ ?_<;>intro ht27
    ·refine CW.skip ?_;refine hK25 _ _ ?_;clear hK25;refine CW.seq fun K28 hK28=>?_;refine CW.block ?_;obtain⟨q,hqk⟩:∃q,(bf (ay rs))[(aU (ay rs) b i).at_+k]? =some q:=⟨_,List.getElem?_eq_getElem ai⟩;obtain⟨oa,hoa,hmo⟩:=hlgS _ q hqk;subst hoa;have hql:q<rs.length:=by have:=jI hG.down (List.mem_of_getElem? hqk);omega
     obtain⟨y,hy⟩:∃y,rs[q]? =some y:=⟨_,List.getElem?_eq_getElem hql⟩;have hye:=hxe q y hy;have hmy:=hme q y hy;have hr:((bf (ay rs)).map (nm (ay rs)))[(aU (ay rs) b i).at_+k]? =some y.el.name:=by rw [List.getElem?_map,hqk];simp [fc hye]
     have hol2:((aU (ay rs) b i).out++kF ((bf (ay rs)).map (nm (ay rs))) (aU (ay rs) b i).at_ k).length≤4000:=by have:=xD (rs:=((bf (ay rs)).map (nm (ay rs)))) (a:=(aU (ay rs) b i).at_) (n:=k);rw [List.length_append];omega
     refine CW.held (fun wq=>aE (fun k=>ov2.ownBlock=some k) w5 wq) aG 18 rfl fun w6 hx6=>?_;have hS:aE (fun k=>ov2.ownBlock=some k) w5 w6:=hx6.aA;have hO2:=hO2.ext hx6;refine RH.tk 0 hS rfl (fun wq hq=>Y.move rfl)<|RH.tk 1 hS rfl (fun wq hq=>Y.move rfl)<|RH.tk 2 hS rfl (fun wq hq=>Y.nilCheck rfl)<|RH.tk 3 hS rfl (fun wq hq=>Y.fieldAddr aI rfl)<|RH.tk 4 hS rfl (fun wq hq=>Y.ah underlying111 rfl ((hR.ext (hE.step hq (fun k h=>by have:=hf2 k h;omega))).bY.mem.aP) rfl)<|RH.tk 5 hS rfl (fun wq hq=>Y.move rfl)<|RH.tk 6 hS rfl (fun wq hq=>Y.move rfl)<|RH.tk 7 hS rfl (fun wq hq=>Y.move rfl)<|RH.tk 8 hS rfl (fun wq hq=>Y.add rfl rfl bB)<|RH.tk 9 hS rfl (fun wq hq=>Y.af underlying23 rfl rfl dq ai (i:=(aU (ay rs) b i).at_+k))<|RH.tk 10 hS rfl (fun wq hq=>Y.ah underlying3 rfl ((hmo.ext (hL2.step hq (fun k h=>hf2 k h))).cell0) rfl)<|RH.tk 11 hS rfl (fun wq hq=>Y.af underlying111 rfl rfl aV ai)<|RH.tk 12 hS rfl (fun wq hq=>Y.fieldAddr cI rfl) ?_;refine RH.tk 13 hS rfl (fun wq hq=>Y.load underlying62 rfl ((hmy.ext (hE.step hq (fun k h=>by have:=hf2 k h;omega))).df) (aT _) rfl)<|RH.tk 14 hS rfl (fun wq hq=>Y.build rfl (AW y.el.name _))<|RH.one 15 aG ?_;refine RS.st rfl (St.buildSlice rfl (qh ⟨2,false,y.el.name,0⟩)) aw fun v78 w7 hR7=>?_;obtain⟨gb,rfl,hgb,hBb,hxb⟩:=hR7;have hzb:=hxb.size;have hO2:=hO2.ext hxb;have hS:=hS.ae hxb;have hzS:=hS.size;refine⟨hS,?_⟩;refine RH.one 16 aG ?_;refine RS.st rfl (St.append (m:=1) (news:=eM ⟨2,false,y.el.name,0⟩) underlying27 underlying27 q5 rfl rfl hO2 (Fw.Src.one hBb (aC _)) jM (by rw [aO aC];omega)) aw fun v79 w8 hR8=>?_;obtain⟨hO5,hc5,hf5⟩:=hR8;have hz5:=hc5.size;have hS:=hS.trans hc5 (fun q _ h=>h);refine⟨hS,?_⟩;refine RH.tk 17 hS rfl (fun wq hq=>Y.assign rfl)<|RH.done aG ?_;have hL5:=hL2.step hS (fun k h=>hf2 k h);have hE:=hE3.ae hL5;have hf6:∀q,v79.ownBlock=some q→w3.heap.size≤q:=fun q hq=>by
      rcases hf5 with h|h
      ·rw [h]at hq;exact hf2 q hq
      ·have:=h q hq;omega
     refine hK28 _ _ ?_;clear hK28;refine CW.region<|WL.m rfl<|WL.v (Y.add rfl rfl bB)<|WL.a rfl<|WL.nil ?_;exact⟨(k+1,v79),by show ed.n-(k+1)<ed.n-k;omega,Fr.ok,by show k+1≤ed.n;omega,hL5,(by show Own _ _ _ _ (jF (_++kF _ _ (k+1)));rw [qy hr];simpa [jF]using hO5),hf6⟩
    refine CW.exit ?_;refine hK23 _ _ ?_;clear hK23;refine CW.region<|WL.m rfl<|WL.m rfl<|WL.m rfl<|WL.v (Y.af underlying83 rfl rfl b4 ai)<|WL.v (Y.fieldAddr eC rfl)<|WL.v (Y.ah underlying3 rfl ((hmeW _ hL2).ko) rfl)<|WL.v (Y.add rfl rfl bB)<|WL.a rfl<|WL.nil ?_;obtain⟨ha1,hk1,ho1⟩:=Bw hed ai;have hke:k=ed.n:=by omega
    subst hke;exact⟨ov2,(by repeat (first|exact Fr.le.nil|refine Fr.le.cons rfl ?_|refine Fr.le.cons (by show some (Value.int .i64 _)=some (Value.int .i64 _);congr 2;omega) ?_)),hL2,(by rw [ho1];exact hO2),hf2⟩
   refine CW.sr fun K29 hK29=>WL.v (Y.eql rfl rfl)<|WL.a rfl<|WL.nil (hK29 _ _ ?_);clear hK29;refine bp ?_ ?_<;>intro ht30
   ·refine CW.sr fun K31 hK31=>WL.m rfl<|WL.m rfl<|WL.call func43 rfl rfl rfl (DV g ad rs av _ ((aU (ay rs) b i).kept:Int) _ (hR.ext hE) hG hn) aL ?_;rintro v w9 ⟨rfl,hx9⟩;have hz9:=hx9.size;have hE:=hE.ae hx9;refine WL.m rfl<|WL.v (Y.extract rfl rfl)<|WL.v (Y.extract rfl rfl)<|WL.v (Y.extract rfl rfl) ?_;refine jQ rfl aL aw fun g14 w10 hx10 hg14 hB14=>?_;have hlt14:=hB14.lt;have hz10:=hx10.size;have hE:=hE.ae hx10;refine WL.a rfl<|WL.a rfl<|WL.nil (hK31 _ _ ?_);clear hK31;refine CW.sr fun K32 hK32=>WL.a rfl<|WL.nil (hK32 _ _ ?_);clear hK32;refine CW.block ?_;refine CW.loop (X:=Nat×Value) (fun x=>[(0,.pointer (some ⟨g,0,none⟩)),(6,.slice (some la) lm lc),(8,.slice SA Sm Sc),(9,.int .i64 ((aU (ay rs) b i).at_:Int)),(10,.int .i64 ((aU (ay rs) b i).kept:Int)),(11,x.2),(12,.int .i64 (i:Int)),(14,.pointer (some ⟨g14,0,none⟩)),(15,.bool (c4 (ay rs) ((aU (ay rs) b i).kept:Int)).2.1),(17,.int .i64 (x.1:Int))]) (fun x w0=>x.1≤ed.text.length∧Ext w3 w0∧Own w0 DY 37 x.2 (jF ((aU (ay rs) b i).out++(fG (c4 (ay rs) ((aU (ay rs) b i).kept:Int)) (aU (ay rs) b i).out.length ed.text).take x.1))∧(∀q,x.2.ownBlock=some q→w3.heap.size≤q)∧aK w0 g14 FG (aX (c4 (ay rs) ((aU (ay rs) b i).kept:Int)).1)) (fun x=>ed.text.length-x.1) (0,ov) Fr.ok ⟨Nat.zero_le _,(hL.ae hx9).ae hx10,(by simpa using(hO.ext hx9).ext hx10),hf,hB14⟩ ?_;intro x w11 hl11;have hcst:ed.cost=ed.n+ed.text.length:=by unfold dm.cost;rw [if_neg ai]
    obtain⟨k,ov2⟩:=x;obtain⟨hk,hL2,hO2,hf2,hB14⟩:=hl11;dsimp only at hk hO2 hf2⊢;have hE:=hE3.ae hL2;have hzL2:=hL2.size;refine CW.seq fun K33 hK33=>CW.sr fun K34 hK34=>WL.m rfl<|WL.m rfl<|WL.m rfl<|WL.v (Y.af underlying83 rfl rfl b4 ai)<|WL.v (Y.fieldAddr fb rfl)<|WL.v (Y.ah underlying9 rfl ((hmeW _ hL2).lh) rfl)<|WL.v (Y.aM underlying9 rfl)<|WL.v (Y.lss rfl rfl)<|WL.nil (hK34 _ _ ?_);clear hK34;refine bp ?_ ?_<;>intro ht35
    ·refine CW.skip ?_;refine hK33 _ _ ?_;clear hK33;refine CW.seq fun K36 hK36=>?_;obtain⟨bb,hbb⟩:∃x,ed.text[k]? =some x:=⟨_,List.getElem?_eq_getElem ai⟩;have hib:k<(bs ed.text).size:=by omega
     have hbG:(bs ed.text)[k]=bb:=by rw [Iq hib,hbb];rfl
     obtain⟨vA,vm,vc,rfl⟩:=hO2.lens;have hvm:vm=(aU (ay rs) b i).out.length+k:=by
      have h:=(hO2.len aC aw).1;rw [List.length_append,List.length_take,eK]at h;omega
     have hvl:=hO2.lt;have hg14l:=hB14.lt;have hol2:((aU (ay rs) b i).out++(fG (c4 (ay rs) ((aU (ay rs) b i).kept:Int)) (aU (ay rs) b i).out.length ed.text).take k).length≤4000:=by rw [List.length_append,List.length_take,eK];omega
     refine CW.block<|CW.sr fun K37 hK37=>WL.m rfl<|WL.m rfl<|WL.v (Y.af underlying83 rfl rfl b4 ai)<|WL.v (Y.fieldAddr fb rfl)<|WL.v (Y.ah underlying9 rfl ((hmeW _ hL2).lh) rfl)<|WL.m rfl<|WL.v (Y.cJ (i:=k) (s:=bs ed.text) underlying9 rfl rfl ai)<|WL.m rfl<|WL.v (Y.aq underlying27 rfl)<|WL.v (Y.build rfl (x3 _ _))<|WL.v (Y.build rfl (GX _ _ _)) ?_;refine lF rfl aL aw fun g18 w12 hx12 hg18 hB18=>?_;have hlt18:=hB18.lt;have hz12:=hx12.size;have hE:=hE.ae hx12;have hB14:=hB14.ext hx12;refine WL.nil (hK37 _ _ ?_);clear hK37;refine CW.bK (X:=Unit) (fun _=>[(0,.pointer (some ⟨g,0,none⟩)),(6,.slice (some la) lm lc),(8,.slice SA Sm Sc),(9,.int .i64 ((aU (ay rs) b i).at_:Int)),(10,.int .i64 ((aU (ay rs) b i).kept:Int)),(11,.slice vA vm vc),(12,.int .i64 (i:Int)),(14,.pointer (some ⟨g14,0,none⟩)),(15,.bool (c4 (ay rs) ((aU (ay rs) b i).kept:Int)).2.1),(17,.int .i64 (k:Int)),(18,.pointer (some ⟨g18,0,none⟩))]) (fun _ w0=>Ext w3 w0∧Own w0 DY 37 (.slice vA vm vc) (jF ((aU (ay rs) b i).out++(fG (c4 (ay rs) ((aU (ay rs) b i).kept:Int)) (aU (ay rs) b i).out.length ed.text).take k))∧aK w0 g14 FG (aX (c4 (ay rs) ((aU (ay rs) b i).kept:Int)).1)∧aK w0 g18 DY (eM ⟨1,sk (c4 (ay rs) ((aU (ay rs) b i).kept:Int)) k,mq (c4 (ay rs) ((aU (ay rs) b i).kept:Int)) (aU (ay rs) b i).out.length k,bb⟩)) ?_ ?_
     ·refine CW.sr fun K39 hK39=>WL.m rfl<|WL.v (Y.eql rfl rfl)<|WL.nil (hK39 _ _ ?_);clear hK39;refine bp ?_ ?_<;>intro ht40
      ·refine CW.sr fun K41 hK41=>WL.v (Y.load underlying62 rfl hB14.mem (aT _) rfl)<|WL.v (Y.fieldAddr bE rfl)<|WL.store (g:=g18) (pre:=[.int .i64 1,.bool false]) (old:=aX ⟨true,aD.zero,(vm:Int)⟩) (post:=[bc (bs ed.text)[k]]) (new:=aX (c4 (ay rs) ((aU (ay rs) b i).kept:Int)).1) rfl rfl rfl rfl (aT _) (by simpa [eM]using hB18) (by simp only [ax]) (dN) (fun w13 hc13 hB13_=>?_);have hz13:=hc13.size;have hE:=hE.step hc13 (fun k h=>by omega);have hB14:=hB14.aA hc13 cq;have hB18:aK w13 g18 DY ([.int .i64 1,.bool false]++aX (c4 (ay rs) ((aU (ay rs) b i).kept:Int)).1++[bc (bs ed.text)[k]]):=hB13_;refine WL.nil (hK41 _ _ ?_);clear hK41;refine CW.region<|WL.m rfl<|WL.v (Y.fieldAddr fB rfl)<|WL.store (g:=g18) (pre:=[.int .i64 1]) (old:=[.bool false]) (post:=aX (c4 (ay rs) ((aU (ay rs) b i).kept:Int)).1++[bc (bs ed.text)[k]]) (new:=[.bool (c4 (ay rs) ((aU (ay rs) b i).kept:Int)).2.1]) rfl rfl rfl rfl aG (by simpa using hB18) j0 (dd rfl) (fun w14 hc14 hB14_=>?_);have hz14:=hc14.size;have hE:=hE.step hc14 (fun k h=>by omega);have hB14:=hB14.aA hc14 cq;have hB18n:aK w14 g18 DY (eM ⟨1,(c4 (ay rs) ((aU (ay rs) b i).kept:Int)).2.1,(c4 (ay rs) ((aU (ay rs) b i).kept:Int)).1,bb⟩):=by rw [hbG]at hB14_;simpa [eM]using hB14_
       refine WL.nil ?_;have hk0:k=0:=by omega
       subst hk0;have hO9:=((hO2.ext hx12).aA hc13 (fun q hq h=>by have:=hvl q hq;have h:q=g18:=h;omega)).aA hc14 (fun q hq h=>by have:=hvl q hq;have h:q=g18:=h;omega);have hL9:Ext w3 w14:=((hL2.ae hx12).step hc13 (fun q h=>by have h:q=g18:=h;omega)).step hc14 (fun q h=>by have h:q=g18:=h;omega);exact⟨(),Fr.ok,hL9,hO9,hB14,hB18n⟩
      refine CW.skip ?_;obtain⟨hpr,hps⟩:=E9 (g:=(c4 (ay rs) ((aU (ay rs) b i).kept:Int))) (n:=(aU (ay rs) b i).out.length) (k:=k) ai;exact⟨(),Fr.ok,hL2.ae hx12,hO2.ext hx12,hB14,(by rw [hpr,hps,←hvm,←hbG];exact hB18)⟩
     rintro u w15 hj15;obtain⟨hL3,hO3,hB14,hB18⟩:=hj15;have hzL3:=hL3.size;refine CW.region<|WL.m rfl<|WL.v (Y.load underlying64 rfl hB18.mem (eA _) rfl)<|WL.st (St.buildSlice rfl (qh ⟨1,sk (c4 (ay rs) ((aU (ay rs) b i).kept:Int)) k,mq (c4 (ay rs) ((aU (ay rs) b i).kept:Int)) (aU (ay rs) b i).out.length k,bb⟩)) aw fun v125 w16 hR16=>?_;obtain⟨gb,rfl,hgb,hBb,hxb⟩:=hR16;have hzb:=hxb.size;have hO3:=hO3.ext hxb;have hB14:=hB14.ext hxb;refine WL.st (St.append (m:=1) (news:=eM ⟨1,sk (c4 (ay rs) ((aU (ay rs) b i).kept:Int)) k,mq (c4 (ay rs) ((aU (ay rs) b i).kept:Int)) (aU (ay rs) b i).out.length k,bb⟩) underlying27 underlying27 q5 rfl rfl hO3 (Fw.Src.one hBb (aC _)) jM (by rw [aO aC];omega)) aw fun v126 w17 hR17=>?_;obtain⟨hO5,hc5,hf5⟩:=hR17;have hz5:=hc5.size;have hL5:Ext w3 w17:=(hL3.ae hxb).step hc5 (fun q h=>hf2 q h);have hB14:=hB14.aA hc5 (fun h=>by
      obtain⟨_,_,h1⟩:=hO3.kind h;exact absurd (bW h1 hB14) aw)
     have hf6:∀q,v126.ownBlock=some q→w3.heap.size≤q:=fun q hq=>by
      rcases hf5 with h|h
      ·rw [h]at hq;exact hf2 q hq
      ·have:=h q hq;omega
     refine WL.a rfl<|WL.nil (hK36 _ _ ?_);clear hK36;refine CW.region<|WL.m rfl<|WL.v (Y.add rfl rfl bB)<|WL.a rfl<|WL.nil ?_;exact⟨(k+1,v126),by show ed.text.length-(k+1)<ed.text.length-k;omega,Fr.ok,by show k+1≤ed.text.length;omega,hL5,(by show Own _ _ _ _ (jF (_++(fG _ _ _).take (k+1)));rw [Go.Pl.take_succ (nX hbb)];simpa [jF]using hO5),hf6,hB14⟩
    refine CW.exit ?_;obtain⟨ha1,hk1,ho1⟩:=Cq hed ai;have hke:k=ed.text.length:=by omega
    subst hke;rw [List.take_of_length_le (by rw [eK];exact Nat.le_refl _)]at hO2;exact⟨ov2,(by repeat (first|exact Fr.le.nil|refine Fr.le.cons rfl ?_|refine Fr.le.cons (by show some (Value.int .i64 _)=some (Value.int .i64 _);congr 2;omega) ?_)),hL2,(by rw [ho1];exact hO2),hf2⟩
   refine CW.skip ?_;exact False.elim (by rcases hmay with⟨h|h,_⟩|⟨h,_⟩<;>omega)
  rintro u w18 hj18;obtain⟨hL3,hO3,hf3⟩:=hj18;have hE:=hE3.ae hL3;refine CW.region<|WL.m rfl<|WL.v (Y.add rfl rfl bB)<|WL.a rfl<|WL.nil ?_;exact⟨(i+1,u),by show lm-(i+1)<lm-i;omega,Fr.ok,by show i+1≤lm;omega,hL3,hO3,hf3⟩
 refine CW.exit ?_;refine hK11 _ _ ?_;clear hK11;refine CW.sr fun K42 hK42=>WL.m rfl<|WL.a rfl<|WL.a rfl<|WL.nil (hK42 _ _ ?_);clear hK42;refine CW.ret ⟨_,rfl,?_⟩;obtain rfl:i=lm:=by omega
 have hend:(aU (ay rs) b i).out=Al (ay rs) b:=by rw [←hlm];exact uZ
 rw [hend]at hO;exact⟨ov,(by rw [hok];rfl),(by rw [tW,if_pos hok];exact hO),(fun q hq=>by have:=hf q hq;have:=hE3.size;omega),hE⟩
end Go.Proofs.YtmehkigmnpjcjaaGreatDoor
deriving instance DecidableEq for Go.Fu.ky
namespace Go.Fw
open Go.RowKit Go.Fu
def gI(r:ky):List Value:=aN r.c++[.int .i64 (r.n:Int)]
theorem fV(r:ky):(gI r).length=33:=by rw [gI,List.length_append,ag];rfl
theorem EG{r:ky}:∀u∈gI r,u.oneCell'=true:=by
 intro u hu;rw [gI,List.mem_append]at hu;rcases hu with hu|hu
 ·exact bV u hu
 ·simp at hu;subst hu;rfl
abbrev lW(l:List ky):List Value:=(l.map gI).flatten
theorem kG(l:List ky):(lW l).length=l.length*33:=aO fV l
section
variable {w:World} {a:Addr} {x:ky} (h:Mem w a (gI x))
include h
theorem Mem.GY:Mem w (a.add 0) (aN x.c):=h.sub 0 fun j v hj=>by
 have hlt:j<(aN x.c).length:=(List.getElem?_eq_some_iff.1 hj).1;rw [Nat.zero_add,gI,List.getElem?_append_left hlt];exact hj
theorem Mem.Ga:w.cell? (a.add 32)=some (.int .i64 (x.n:Int)):=h.cell 32 (by rw [gI,List.getElem?_append_right (by rw [ag];omega),ag];rfl)
end
theorem EC{l:List ky}{i:Nat}{x:ky}(h:l[i]? =some x)(n:Nat):lW l=(lW (l.take i)++aN x.c)++[.int .i64 (x.n:Int)]++lW (l.drop (i+1))∧lW (l.set i ⟨x.c,n⟩)=(lW (l.take i)++aN x.c)++[.int .i64 (n:Int)]++lW (l.drop (i+1)):=by
 obtain⟨h1,h2⟩:=ox (enc:=gI) (⟨x.c,n⟩:ky) h;exact⟨by rw [lW,h1];simp only [gI,List.append_assoc],by rw [lW,h2];simp only [gI,List.append_assoc]⟩
noncomputable def gW(l:List ky)(d:aD):List ky:=if l.getLast?.map ky.c=some d then l else l++[⟨d,0⟩]
def qT(l:List ky):aD:=((l[l.length-1]?).map ky.c).getD aD.zero
theorem u6{l:List ky}(h:0<l.length)(d:aD):l.getLast?.map ky.c=some d↔qT l=d:=by
 obtain⟨x,hx⟩:∃x,l[l.length-1]? =some x:=⟨_,List.getElem?_eq_getElem ai⟩;rw [List.getLast?_eq_getElem?,qT,hx];simp
theorem CS{l:List ky}{d:aD}(h:(l.length:Int)=0∨¬qT l=d):gW l d=l++[⟨d,0⟩]:=by
 rw [gW,if_neg];intro h1;rcases Nat.eq_zero_or_pos l.length with h0|h0
 ·obtain rfl:=List.eq_nil_of_length_eq_zero h0;simp at h1
 ·rcases h with h|h
  ·omega
  ·exact h ((u6 h0 d).1 h1)
theorem Cf{l:List ky}{d:aD}(h:¬((l.length:Int)=0∨¬qT l=d)):gW l d=l:=by
 rw [gW,if_pos];have h0:¬(l.length:Int)=0:=fun e=>h (.inl e);have h1:qT l=d:=Decidable.not_not.1 fun e=>h (.inr e);exact(u6 ai d).2 h1
theorem Ah(l:List ky)(d:aD):∃x,(gW l d)[(gW l d).length-1]? =some x∧x.c=d:=by
 unfold gW;split
 ·rename_i h;rw [List.getLast?_eq_getElem?]at h;obtain⟨e,he,hk⟩:=Option.map_eq_some_iff.1 h;exact⟨e,he,hk⟩
 ·exact⟨⟨d,0⟩,by simp,rfl⟩
theorem vB(l:List ky)(d:aD):(gW l d).length≤l.length+1:=by
 unfold gW;split<;>simp
theorem GM{l:List ky}{d:aD}{N:Nat}(h:∀x∈l,x.n≤N):∀x∈gW l d,x.n≤N:=fun x hx=>by
 unfold gW at hx;split at hx
 ·exact h x hx
 ·rcases List.mem_append.1 hx with hx|hx
  ·exact h x hx
  ·simp at hx;subst hx;exact Nat.zero_le _
theorem zU{α:Type}{m:List α}{x:α}{f:α→α}(h:m[m.length-1]? =some x):m.modify (m.length-1) f=m.set (m.length-1) (f x):=by
 apply List.ext_getElem?;intro i;rw [List.getElem?_modify,List.getElem?_set];have hlt:=(List.getElem?_eq_some_iff.1 h).1;by_cases e:m.length-1=i
 ·subst e;rw [if_pos rfl,if_pos hlt,h];simp
 ·rw [if_neg e];cases m[i]? with
  |none=>rfl
  |some y=>show some (if m.length-1=i then _ else y)=_;rw [if_neg e]
theorem Ex{l:List ky}{d:aD}{x:ky}(h:(gW l d)[(gW l d).length-1]? =some x):pU l d=(gW l d).set ((gW l d).length-1) ⟨x.c,x.n+1⟩:=by
 unfold gW at h⊢;unfold pU;split
 ·rename_i hc;rw [if_pos hc]at h;exact zU h
 ·rename_i hc;rw [if_neg hc]at h;simp at h;subst h;simp
theorem xW:∀{l:List ky} {x:ky},x∈l→x.n≤(spread l).length
 |r::l,x,hx=>by
  rw [spread,List.flatMap_cons,List.length_append,List.length_replicate];rcases List.mem_cons.1 hx with rfl|hx
  ·omega
  ·have:=xW hx;rw [spread]at this;omega
theorem r9:∀{l:List ky},(∀r∈l,1≤r.n)→l.length≤(spread l).length
 | [],_=>Nat.zero_le _
 |r::l,h=>by
  have h1:=h r aL;have h2:=r9 (l:=l) fun x hx=>h x (by simp [hx]);rw [spread]at h2;rw [spread,List.flatMap_cons,List.length_append,List.length_replicate,List.length_cons];omega
theorem DO:qi [] []:=⟨rfl,fun r h=>(nomatch h),fun i r s h=>by simp at h⟩
theorem GI(ds:List aD):(ds.foldl pU []).length≤ds.length∧∀x∈ds.foldl pU [],x.n≤ds.length:=by
 have h:=uS DO ds;rw [List.nil_append]at h;have h1:=h.all;refine⟨?_,fun x hx=>?_⟩
 ·have:=r9 h.pos;rw [h1]at this;exact this
 ·have:=xW hx;rw [h1]at this;exact this
end Go.Fw
namespace Go.Proofs.YtmehkigmnpjcjaaGreatDoor
open Go.RowKit Go.Fw Go.Fu Go.Pl Go.Proofs.Tryz
abbrev rD:TypeId:=70
abbrev JJ:TypeId:=67
abbrev JM:=underlying67
theorem j5:(prog.info? rD).map (·.size)=some 33:=by kernel_rfl
theorem Bq(x:ky):(prog.info? rD).map (·.size)=some (gI x).length:=by rw [fV];exact j5
theorem Ag:bh prog rD 0 0:=⟨_,_,32,underlying70,rfl,qA,by decide,rfl⟩
theorem sC:bh prog rD 1 32:=⟨_,_,1,underlying70,rfl,qw,by decide,rfl⟩
theorem Eh:eP prog rD 33 40:=by
 have h:(prog.info? rD).map (fun i=>(i.size,i.bytes,i.zero))=some (33,40,some (.agg (gI ⟨aD.zero,0⟩).toArray)):=by kernel_rfl
 obtain⟨i,hi,h⟩:=Option.map_eq_some_iff.1 h;injection h with h1 h2
 injection h2 with h2 h3
 exact⟨i,_,hi,h3,h1,by show(gI ⟨aD.zero,0⟩).toArray.size=33;simp [fV],h2,by decide,by decide⟩
theorem Gj(r:ky)(w:World):(Instr.buildSlice JJ 1 [(0,.agg (gI r).toArray)].toArray).run prog w= .ok (.slice (some ⟨w.heap.size,0,none⟩) 1 1) (w.alloc (.cells (gI r).toArray rD)):=by
 obtain⟨i,z,hi,hz,hk,_⟩:=Eh;exact il JM hi hz ai ai rfl (by rw [fV,hk]) w
theorem ug(parts:List (Nat×Value)):prog.built rD parts=Instr.fill (fun i=>#[(0,32),(32,1)][i]?) (gI ⟨aD.zero,0⟩).toArray parts:=by kernel_rfl
theorem BT(d:aD)(w:World):(Instr.build rD [(0,cU d)].toArray).run prog w= .ok (.agg (gI ⟨d,0⟩).toArray) w:=run_build w _ _ _ (by
 show prog.built _ [(0,cU d)]=_;rw [ug];have e0:gI ⟨aD.zero,0⟩=[]++aN aD.zero++[Value.int .i64 ((0:Nat):Int)]:=rfl;rw [e0,bM [] (aN aD.zero) [Value.int .i64 ((0:Nat):Int)] (aN d) (by rw [ag];rfl) rfl (by rw [ag,ag]) rfl,Instr.fill];rfl)
theorem Cm:prog.eqGuardType prog.depth rD=false:=by kernel_rfl
theorem DR:prog.stoodInHeld rD=false:=by kernel_rfl
theorem zR:∃f0 f1:Field,(prog.fieldsOf rD).toList=[f0,f1]∧f0.name≠ "_" ∧f1.name≠ "_" ∧f0.type=42∧f1.type=3∧f0.offset=0∧f1.offset=32:=by
 refine⟨_,_,(by simp only [Program.fieldsOf,underlying70];rfl),?_,?_,rfl,rfl,rfl,rfl⟩<;>decide
theorem HQ:prog.underlying rD=some (.struct (prog.fieldsOf rD)):=by simp only [Program.fieldsOf,underlying70]
theorem IE(r:ky):(gI r).toArray.extract 0 (0+32)=(aN r.c).toArray:=by
 have:=ag r.c;simp [gI,List.take_append,this]
theorem I9(r:ky):(gI r).toArray[32]? =some (.int .i64 (r.n:Int)):=by
 have:=ag r.c;simp [gI,List.getElem?_append_right,this]
theorem FB(d:Nat)(a b:ky)(w:World):(Op.equalIn (d+3) rD (.agg (gI a).toArray) (.agg (gI b).toArray)).run prog w= .ok (decide (a=b)) w:=by
 rw [run_equalIn_struct (P:=prog) w (d+2) _ _ _ HQ DR];obtain⟨f0,f1,hf,n0,n1,t0,t1,o0,o1⟩:=zR;rw [hf];simp only [Op.eqFields,Sem.run_ite,Sem.run_pure,n0,n1,t0,t1,o0,o1,ne_eq,not_false_eq_true,if_true,Sem.run_bind,jk underlying3 rfl (I9 _),sF,IE,Result.andThen_ok,mM,
  run_equalIn_int w _ _ _ _ _ _ underlying3]
 obtain⟨ac,an⟩:=a;obtain⟨bc',bn⟩:=b;have hn:((an:Int)==(bn:Int))=decide (an=bn):=by rw [Bool.eq_iff_iff];simp [Int.natCast_inj]
 by_cases h1:ac=bc'<;>by_cases h2:an=bn<;>simp [h1,h2,hn]
theorem oQ{w:World}{l:List ky}{A:Option Addr}{m c:Nat}(h:Own w rD 33 (.slice A m c) (lW l)):l.length=m∧(0<m→∃a x,A=some a∧l[m-1]? =some x∧x.c=qT l∧Mem w (a.add ((m-1)*33)) (gI x)):=by
 have h1:l.length=m:=by
  have h2:=(h.mem A m c rfl).2.2.1;rw [kG]at h2;omega
 refine⟨h1,fun h0=>?_⟩;obtain⟨x,hx⟩:∃x,l[m-1]? =some x:=⟨_,List.getElem?_eq_getElem ai⟩;obtain⟨a,ha,hm⟩:=(h.sl fV aw).get hx;exact⟨a,x,ha,hx,by rw [qT,h1,hx];rfl,hm⟩
theorem Dl{w:World}{l:List ky}{a:Addr}{m c:Nat}(h:Own w rD 33 (.slice (some a) m c) (lW l))(h0:0<m):∃g,a=⟨g,0,none⟩:=by
 obtain⟨g,hg,_⟩:=h.head (by
  intro e;have h2:=(oQ h).1;have h3:=kG l;rw [e]at h3;simp at h3;omega)
 injection hg with hg
 exact⟨g,hg⟩
set_option maxRecDepth 100000 in
set_option maxHeartbeats 2000000 in
theorem yJ(g rb ra:Nat)(ad:List aD)(ns:List Nn)(w:World)(hT:cH w g rb ra ad ns)(hG:Fu.Good (Fw.aR ns))(hn:ns.length≤400001):Calls prog 21 #[.pointer (some ⟨g,0,none⟩)] w (cB fun v w'=>Own w' rD 33 v (lW (vU (Fw.aR ns)))∧(∀q,v.ownBlock=some q→w.heap.size≤q)∧Ext w w'):=by
 have hlv:(bf (Fw.aR ns)).length≤400001:=by
  have h1:=List.countP_le_length (p:=fun x:El=> !x.gone) (l:=Fw.aR ns);rw [hG.jn];rw [List.length_map]at h1;exact Nat.le_trans h1 hn
 obtain⟨ds,hds⟩:∃ds:List aD,ds=(bf (Fw.aR ns)).map fun q=>(nm (Fw.aR ns) q).c:=⟨_,rfl⟩;have hdl:ds.length=(bf (Fw.aR ns)).length:=by rw [hds,List.length_map]
 have hTl:=fun q (hq:Fp g rb ra ns q)=>hT.lt hq;refine q8 41 [2] [(0,.pointer (some ⟨g,0,none⟩))] func21 rfl rfl rfl aL du ?_;have hE:Ext w w:=aE.refl;refine CN.seq fun K1 hK1=>?_;refine CN.jD ?_;refine CW.region<|WL.val (Y.assign rfl) dP<|WL.nil ?_;refine hK1 _ _ _ ?_;clear hK1;refine CN.seq fun K2 hK2=>?_;refine CN.jD ?_;refine CW.region<|WL.yX (z:= .slice none 0 0) aG rfl dP fun g3 w1 hx1 hg3 hB3=>?_;have hlt3:=hB3.lt;have hz1:=hx1.size;have hE:=hE.ae hx1;refine WL.nil ?_;refine hK2 _ _ _ ?_;clear hK2;refine CN.seq fun K3 hK3=>?_;refine CN.seq fun K4 hK4=>?_;refine CN.jD ?_;refine CW.region<|WL.val (Y.move rfl) dP<|WL.call func32 rfl rfl rfl (xx ⟨g,0,none⟩ _) aL ?_;rintro v6 w2 hR2;obtain⟨b6,rfl,hgb,hBb,hx2⟩:=hR2;have hz2:=hx2.size;have hE:=hE.ae hx2;have hB3:=hB3.ext hx2;have hT2:=hT.ext hE;have hE2:=hE;refine WL.nil ?_;refine hK4 _ _ _ ?_;clear hK4;refine CN.block ?_;refine CN.DI (rfl) func59 rfl rfl (uU g rb ra ad ns b6 _ hT2 hG hn hBb) (fun _=>rfl) dP (fun _ h=>h.elim) (fun w1 s V hz hs i hk=>by have:=hs.1;have:=hk.1;omega) (fun s i V=>w2.heap.size+2≤s.lo∧s.lo≤s.hi∧s.hi≤V.heap.size∧∃u,aK V g3 JJ [u]∧Own V rD 33 u (lW ((ds.take i).foldl pU []))∧(∀q,u.ownBlock=some q→s.hi≤q)∧aE (fun k=>k=g3) w2 V) (fun _ _ _=>False) ?_ ?_ ?_ ?_ ?_ ?_ ?_
 ·intro w1_ s_ V hw_ hz_ hc_ hs_;exact⟨by have:=hs_.1;omega,hs_.2.1,hs_.2.2,.slice none 0 0,(hB3.ext hw_).ext hc_,Own.nil,(fun q h=>by simp [Value.ownBlock]at h),Ext.aA (hw_.ae hc_)⟩
 ·intro s_ i_ V V_ hi_ hc_;obtain⟨hlo,hlh,hhi,u,hB3,hO,hf,hC⟩:=hi_;have hzc:=hc_.size;exact⟨hlo,hlh,by omega,u,hB3.aA hc_ (fun h=>by rcases h with h|h;exact h;omega),hO.aA hc_ (fun q hq h=>by rcases h with h|h;exact h;have:=hf q hq;omega),hf,hC.trans hc_ (fun k hk h=>by rcases h with h|h;exact h.elim;exact False.elim ai)⟩
 ·intro s_ e_ V V_ hi_ hc_;exact hi_.elim
 ·intro s_ i_ V hi_;obtain⟨_,_,_,_,_,_,_,hC⟩:=hi_;exact(hT2.aA hC (fun q hq h=>by have:=hTl q hq;have h:q=g3:=h;omega)).I4 hG
 ·intro s_ i_ x_ w3 hi_ hx_ hat_ hz_;obtain⟨hlo,hlh,hhi,u,hB3,hO,hf,hC⟩:=hi_;obtain⟨q,hq,rfl⟩:∃q,(bf (Fw.aR ns))[i_]? =some q∧(nm (Fw.aR ns) q,gA (Fw.aR ns) q)=x_:=by
   rw [lI,List.getElem?_map]at hx_;exact Option.map_eq_some_iff.1 hx_
  have hil:=(List.getElem?_eq_some_iff.1 hq).1;have hdq:ds[i_]? =some (nm (Fw.aR ns) q).c:=by rw [hds,List.getElem?_map,hq];rfl
  obtain⟨L,hL⟩:∃L,L=(ds.take i_).foldl pU []:=⟨_,rfl⟩;have hnext:(ds.take (i_+1)).foldl pU []=pU L (nm (Fw.aR ns) q).c:=by rw [Go.Pl.take_succ hdq,List.foldl_append,←hL];rfl
  obtain⟨hLl,hLn⟩:=GI (ds.take i_);rw [←hL]at hO hLl hLn;rw [List.length_take]at hLl hLn;have hLn:∀x∈L,x.n≤i_:=fun x hx=>by have:=hLn x hx;omega
  have hult:=hO.lt;obtain⟨uA,um,uc,rfl⟩:=hO.lens;have hE:Ext w3 w3:=aE.refl;refine CW.region ?_;refine jQ rfl aL dP fun g4 w4 hx4 hg4 hB4=>?_;have hlt4:=hB4.lt;have hz4:=hx4.size;have hE:=hE.ae hx4;have hB3:=hB3.ext hx4;refine WL.nil ?_;have hE_:Ext w3 w4:=hx4;refine⟨hE_,fun w5 hc_=>?_⟩;have hz5:=hc_.size;have hB3:=hB3.aA hc_ cq;have hB4:=hB4.aA hc_ cq;have hO:=(hO.ext hx4).aA hc_ (fun k hk h=>by have:=hf k hk;omega);have hC9:aE (fun k=>k=g3) w2 w5:=(hC.ae hx4).trans hc_ (fun k hk h=>False.elim ai);have hE:Ext w5 w5:=aE.refl;obtain⟨hm,hcell⟩:=oQ hO;refine CW.block ?_;refine CW.bK (X:=Value) (fun _=>[(3,.pointer (some ⟨g3,0,none⟩)),(4,.pointer (some ⟨g4,0,none⟩))]) (fun u1 w0=>aK w0 g3 JJ [u1]∧Own w0 rD 33 u1 (lW (gW L (nm (Fw.aR ns) q).c))∧(∀k,u1.ownBlock=some k→s_.hi≤k)∧aE (fun k=>k=g3∨s_.hi≤k) w5 w0) ?_ ?_
  ·refine CW.cP 23 ((um:Int)=0∨¬qT L=(nm (Fw.aR ns) q).c) ?_ ?_
   ·refine CW.quiet (fun wq=>Ext w5 wq) aG aG aE.drew<|QL.val (fun wq hq=>Y.ah underlying67 rfl (hB3.ext hq).mem.cell0 rfl) dP<|QL.val (fun wq hq=>Y.aq underlying67 rfl) dP<|QL.val (fun wq hq=>Y.eql rfl rfl) dP<|QL.val (fun wq hq=>Y.move rfl) dP ?_;refine dO ?_ ?_<;>intro hg12
    ·refine QL.nP rfl rfl dP<|QL.nP rfl rfl dP<|QL.nP rfl rfl dP<|QL.nP rfl rfl dP<|QL.nP rfl rfl dP<|QL.nP rfl rfl dP<|QL.nP rfl rfl dP<|QL.nP rfl rfl dP<|QL.nP rfl rfl dP<|QL.nP rfl rfl dP<|QL.val (fun wq hq=>Y.pick rfl rfl) dP<|QL.nil fun wq hq=>⟨⟨_,rfl,?_⟩,hq,Fr.cT⟩;exact aH
    ·obtain⟨a,x,hax,hx,hxk,hma⟩:=hcell ai;subst hax;rw [←hxk];refine QL.oU rfl rfl (fun wq hq=>Y.ah underlying67 rfl (hB3.ext hq).mem.cell0 rfl) dP<|QL.oU rfl rfl (fun wq hq=>Y.ah underlying67 rfl (hB3.ext hq).mem.cell0 rfl) dP<|QL.oU rfl rfl (fun wq hq=>Y.aq underlying67 rfl) dP<|QL.oU rfl rfl (fun wq hq=>Y.tL (c:=um-1) rfl rfl ai ai) dP<|QL.oU rfl rfl (fun wq hq=>Y.af underlying67 rfl rfl j5 ai) dP<|QL.oU rfl rfl (fun wq hq=>Y.fieldAddr Ag rfl) dP<|QL.oU rfl rfl (fun wq hq=>Y.load underlying42 rfl (hma.ext hq).GY (aj _) rfl) dP<|QL.oU rfl rfl (fun wq hq=>Y.fieldAddr cw rfl) dP<|QL.oU rfl rfl (fun wq hq=>Y.load underlying42 rfl (hB4.ext hq).mem.mr (aj _) rfl) dP<|QL.oU rfl rfl (fun wq hq=>Y.jg rfl rfl) dP<|QL.val (fun wq hq=>Y.pick rfl rfl) dP<|QL.nil fun wq hq=>⟨⟨_,rfl,?_⟩,hq,Fr.cT⟩;exact aH
   intro w6 hx6;have hz6:=hx6.size;have hE:=hE.ae hx6;have hB3:=hB3.ext hx6;have hB4:=hB4.ext hx6;refine bp ?_ ?_<;>intro ht6
   ·refine CW.region<|WL.val (Y.ah underlying67 rfl hB3.mem.cell0 rfl) dP<|WL.val (Y.fieldAddr cw rfl) dP<|WL.val (Y.load underlying42 rfl hB4.mem.mr (aj _) rfl) dP<|WL.val (Y.build rfl (BT _ _)) dP<|WL.st (St.buildSlice rfl (Gj _)) dP fun v28 w7 hR7=>?_;obtain⟨g28,rfl,hg28,hB28,hx7⟩:=hR7;have hz7:=hx7.size;have hB3:=hB3.ext hx7;have hB4:=hB4.ext hx7;refine WL.st (St.append (m:=1) (news:=gI ⟨(nm (Fw.aR ns) q).c,0⟩) JM JM Eh rfl rfl ((hO.ext hx6).ext hx7) (Fw.Src.one hB28 (fV _)) EG (by rw [kG];omega)) dP fun v29 w8 hR8=>?_;obtain⟨hO8,hc8,hf8⟩:=hR8;have hz8:=hc8.size;obtain⟨vA,vm,vc,rfl⟩:=hO8.lens;have hf8:∀k,(Value.slice vA vm vc).ownBlock=some k→s_.hi≤k:=fun k hk=>by
     rcases hf8 with h|h
     ·rw [h]at hk;exact hf k hk
     ·have:=h k hk;omega
    have hO8:Own w8 rD 33 (.slice vA vm vc) (lW (gW L (nm (Fw.aR ns) q).c)):=by rw [CS (by rw [hm];assumption)];simpa [lW]using hO8
    have hL8:aE (fun k=>k=g3∨s_.hi≤k) w5 w8:=((Ext.aA hx6).ae hx7).trans hc8 (fun k _ h=>.inr (hf k h));have hB3:=hB3.aA hc8 (fun h=>by have:=hf _ h;omega);have hB4:=hB4.aA hc8 (fun h=>by have:=hult _ h;omega);refine WL.store (g:=g3) (pre:=[]) (old:=[.slice uA um uc]) (post:=[]) (new:=[.slice vA vm vc]) rfl rfl rfl rfl aG (by simpa using hB3) j0 (dd rfl) (fun w9 hc9 hB9_=>?_);have hz9:=hc9.size;skip;have hB4:=hB4.aA hc9 cq;have hB3:aK w9 g3 JJ [.slice vA vm vc]:=by simpa using hB9_
    have hO9:=hO8.aA hc9 (fun k hk h=>by have:=hf8 k hk;have h:k=g3:=h;omega);have hL9:aE (fun k=>k=g3∨s_.hi≤k) w5 w9:=hL8.trans hc9 (fun k _ h=>.inl h);refine WL.nil ?_;exact⟨.slice vA vm vc,Fr.ok,hB3,hO9,hf8,hL9⟩
   refine CW.skip ?_;exact⟨.slice uA um uc,Fr.ok,hB3,(by rw [Cf (by rw [hm];assumption)];exact hO.ext hx6),hf,Ext.aA hx6⟩
  rintro u w10 hj10;obtain⟨hB3,hO,hf,hC10⟩:=hj10;obtain⟨A1,m1,c1,rfl⟩:=hO.lens;obtain⟨hm1,hcell1⟩:=oQ hO;obtain⟨x1,hx1,hxk⟩:=Ah L (nm (Fw.aR ns) q).c;have hl1:=vB L (nm (Fw.aR ns) q).c;have hpos:0<m1:=by have:=(List.getElem?_eq_some_iff.1 hx1).1;omega
  obtain⟨a1,x2,hax,hx2,_,hma1⟩:=hcell1 hpos;subst hax;rw [←hm1,hx1]at hx2;obtain rfl:=Option.some.inj hx2;have hxb:=GM hLn x1 (List.mem_of_getElem? hx1);obtain⟨g1,hg1⟩:=Dl hO hpos;subst hg1;have hg1f:s_.hi≤g1:=hf g1 rfl;have hset:=Ex hx1;rw [hm1]at hx1 hset;have hz10:=hC10.size;refine CW.region<|WL.val (Y.ah underlying67 rfl hB3.mem.cell0 rfl) dP<|WL.val (Y.ah underlying67 rfl hB3.mem.cell0 rfl) dP<|WL.val (Y.aq underlying67 rfl) dP<|WL.val (Y.tL (c:=m1-1) rfl rfl ai ai) dP<|WL.val (Y.af underlying67 rfl rfl j5 ai) dP<|WL.val (Y.fieldAddr sC rfl) dP<|WL.val (Y.ah underlying3 rfl hma1.Ga rfl) dP<|WL.val (Y.add rfl rfl bB) dP<|WL.val (Y.af underlying67 rfl rfl j5 ai) dP<|WL.val (Y.fieldAddr sC rfl) dP<|WL.kZ (g:=g1) (pre:=lW ((gW L (nm (Fw.aR ns) q).c).take (m1-1))++aN x1.c) (old:=[.int .i64 (x1.n:Int)]) (post:=lW ((gW L (nm (Fw.aR ns) q).c).drop (m1-1+1))) (new:=[.int .i64 ((x1.n:Int)+1)]) rfl (by rw [add_add,add_zero',List.length_append,kG,List.length_take,Nat.min_eq_left ai,ag]) rfl rfl aG (by rw [←(EC hx1 0).1];exact hO) j0 (dd rfl) (fun w11 hc11 hB11_=>?_);have hz11:=hc11.size;skip;have hO2:Own w11 rD 33 (.slice (some ⟨g1,0,none⟩) m1 c1) (lW (pU L (nm (Fw.aR ns) q).c)):=by
   have e:((x1.n:Int)+1)=((x1.n+1:Nat):Int):=by omega
   rw [e,←(EC hx1 (x1.n+1)).2]at hB11_;rw [hset];exact hB11_
  have hB3:=hB3.aA hc11 (fun h=>by have h:g3=g1:=h;omega);have hL11:aE (fun k=>k=g3∨s_.hi≤k) w5 w11:=hC10.trans hc11 (fun k _ h=>.inr (by have h:k=g1:=h;omega));have hC12:aE (fun k=>k=g3) w2 w11:=hC9.trans hL11 (fun k hk h=>by rcases h with h|h;exact h;exact False.elim ai);refine WL.nil ?_;exact⟨⟨hlo,hlh,by omega,_,hB3,(by rw [hnext];exact hO2),hf,hC12⟩,hL11.mono fun k _ h=>⟨fun hk=>by have h1:=hk.1;have h2:=hk.2;omega,by omega,by omega⟩⟩
 ·intro s_ w12 hi_ hD_ hfin_;obtain⟨hlo,hlh,hhi,uR,hB3,hO,hf,hC⟩:=hi_;have hxl:(lI (Fw.aR ns) s_).length=ds.length:=by simp only [lI,List.length_map];omega
  rw [hxl,List.take_of_length_le (Nat.le_refl _)]at hO;have hzC:=hC.size;have hE:=hE2.step hC (fun k h=>by have h:k=g3:=h;omega);refine hK3 _ _ _ ?_;clear hK3;refine CN.seq fun K7 hK7=>?_;refine CN.jD ?_;refine CW.region<|WL.val (Y.ah underlying67 rfl hB3.mem.cell0 rfl) dP<|WL.val (Y.assign rfl) dP<|WL.nil ?_;refine hK7 _ _ _ ?_;clear hK7;refine CN.ret ?_;exact⟨[w2.heap.size],rfl,by simp,(fun D hD=>by simp at hD;subst hD;exact hD_),_,rfl,fun w_ hc=>⟨(by rw [vU,←hds];exact hO.aA hc (fun k hk h=>by simp at h;have:=hf k hk;omega)),(fun q hq=>by have:=hf q hq;omega),hE.step hc (fun k h=>by simp at h;omega)⟩⟩
 ·intro s_ e_ w13 hi_ hD_ hfin_ he_;exact hi_.elim
end Go.Proofs.YtmehkigmnpjcjaaGreatDoor
