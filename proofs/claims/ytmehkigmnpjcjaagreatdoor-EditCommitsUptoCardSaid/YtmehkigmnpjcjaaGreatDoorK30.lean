/- Parts of a proof: what its last text leans on. No condition. -/
import Derived.Test.YtmehkigmnpjcjaaGreatDoorK29
set_option linter.unusedSimpArgs false
set_option linter.unusedVariables false
namespace Go.Fw
open Go.RowKit Go.Fu
theorem Iq{l:List UInt8}{i:Nat}(h:i<(bs l).size):(bs l)[i]=(l[i]?).getD 0:=by
 have h':i<l.length:=h;rw [List.getElem?_eq_getElem h'];rfl
theorem DM{p:List UInt8}{j:Nat}(h:j<p.length):(bs p).extract j (j+1)=bs (iG.put ((p[j]?).getD 0)).str:=by
 apply ByteArray.ext;rw [ByteArray.data_extract];show p.toArray.extract j (j+1)=[(p[j]?).getD 0].toArray;apply Array.ext';rw [Array.toList_extract,List.extract_eq_take_drop];rw [List.getElem?_eq_getElem h,show j+1-j=1 by omega,List.drop_eq_getElem_cons h];rfl
theorem Jn{a b:List UInt8}{i j:Nat}(hi:i<a.length)(hj:j<b.length)(h:(a[i]?).getD 0=(b[j]?).getD 0):uY (a.drop i) (b.drop j)= .mw::uY (a.drop (i+1)) (b.drop (j+1)):=by
 rw [List.getElem?_eq_getElem hi,List.getElem?_eq_getElem hj]at h;rw [drop_cons hi,drop_cons hj,ly];exact if_pos h
theorem Iu{a b:List UInt8}{i j:Nat}(hi:i<a.length)(h1:¬(j<b.length∧(a[i]?).getD 0=(b[j]?).getD 0))(h2:b.length≤j∨iY (a.drop (i+1)) (b.drop j)≤iY (a.drop i) (b.drop (j+1))):uY (a.drop i) (b.drop j)= .cut::uY (a.drop (i+1)) (b.drop j):=by
 by_cases hj:j<b.length
 ·have hne:¬a[i]=b[j]:=fun e=>h1 ⟨hj,by rw [List.getElem?_eq_getElem hi,List.getElem?_eq_getElem hj,e]⟩;have hle:iY (a.drop (i+1)) (b.drop j)≤iY (a.drop i) (b.drop (j+1)):=by
   rcases h2 with h2|h2
   ·omega
   ·exact h2
  rw [drop_cons hj,drop_cons hi]at hle;rw [drop_cons hi,drop_cons hj,ly,if_neg hne,if_pos hle]
 ·rw [List.drop_of_length_le (l:=b) (i:=j) ai,drop_cons hi,rI]
theorem I1{a b:List UInt8}{i j:Nat}(hj:j<b.length)(h1:¬(i<a.length∧(a[i]?).getD 0=(b[j]?).getD 0))(h2:¬(i<a.length∧iY (a.drop (i+1)) (b.drop j)≤iY (a.drop i) (b.drop (j+1)))):uY (a.drop i) (b.drop j)= .put ((b[j]?).getD 0)::uY (a.drop i) (b.drop (j+1)):=by
 by_cases hi:i<a.length
 ·have hne:¬a[i]=b[j]:=fun e=>h1 ⟨hi,by rw [List.getElem?_eq_getElem hi,List.getElem?_eq_getElem hj,e]⟩;have hle:¬iY (a.drop (i+1)) (b.drop j)≤iY (a.drop i) (b.drop (j+1)):=fun h=>h2 ⟨hi,h⟩;rw [drop_cons hj,drop_cons hi]at hle;rw [drop_cons hi,drop_cons hj,ly,if_neg hne,if_neg hle,List.getElem?_eq_getElem hj];rfl
 ·rw [List.drop_of_length_le (l:=a) ai,pc,pc,drop_cons hj,List.map_cons,List.getElem?_eq_getElem hj];rfl
def hZ(a b:List UInt8):Nat:=if 1000<a.length∨1000<b.length then 3 else 0
def HC(a b:List UInt8):List dm:=if 1000<a.length∨1000<b.length then []else cj a b
structure mN(a b:List UInt8)(i j:Nat)(l:List dm):Prop where
 hi:i≤a.length
 hj:j≤b.length
 rest:(uY (a.drop i) (b.drop j)).foldl fZ l=cj a b
 bd:Gc l (i+j)
 len:l.length≤i+j
theorem mN.start(a b:List UInt8):mN a b 0 0 []:=⟨Nat.zero_le _,Nat.zero_le _,by simp [cj],(fun x h=>by cases h),Nat.le_refl _⟩
theorem mN.mw{a b:List UInt8}{i j:Nat}{l:List dm}(h:mN a b i j l)(hi:i<a.length)(hj:j<b.length)(he:(a[i]?).getD 0=(b[j]?).getD 0):mN a b (i+1) (j+1) (fZ l .mw):=
 ⟨hi,hj,by have:=h.rest;rwa [Jn hi hj he,List.foldl_cons]at this,fun x hx=>by have:=h.bd.add .mw x hx;omega,by have h1:=kN l .mw;have h2:=(gq l (iG.mw).kind).1;have:=h.len;omega⟩
theorem mN.cut{a b:List UInt8}{i j:Nat}{l:List dm}(h:mN a b i j l)(hi:i<a.length)(h1:¬(j<b.length∧(a[i]?).getD 0=(b[j]?).getD 0))(h2:b.length≤j∨iY (a.drop (i+1)) (b.drop j)≤iY (a.drop i) (b.drop (j+1))):mN a b (i+1) j (fZ l .cut):=
 ⟨hi,h.hj,by have:=h.rest;rwa [Iu hi h1 h2,List.foldl_cons]at this,fun x hx=>by have:=h.bd.add .cut x hx;omega,by have h1:=kN l .cut;have h2:=(gq l (iG.cut).kind).1;have:=h.len;omega⟩
theorem mN.put{a b:List UInt8}{i j:Nat}{l:List dm}(h:mN a b i j l)(hj:j<b.length)(h1:¬(i<a.length∧(a[i]?).getD 0=(b[j]?).getD 0))(h2:¬(i<a.length∧iY (a.drop (i+1)) (b.drop j)≤iY (a.drop i) (b.drop (j+1)))):mN a b i (j+1) (fZ l (.put ((b[j]?).getD 0))):=
 ⟨h.hi,hj,by have:=h.rest;rwa [I1 hj h1 h2,List.foldl_cons]at this,fun x hx=>by have:=h.bd.add (.put ((b[j]?).getD 0)) x hx;omega,by have h1:=kN l (.put ((b[j]?).getD 0));have h2:=(gq l (iG.put ((b[j]?).getD 0)).kind).1;have:=h.len;omega⟩
theorem mN.fin{a b:List UInt8}{l:List dm}(h:mN a b a.length b.length l):l=cj a b:=by
 have:=h.rest;rw [List.drop_length,List.drop_length]at this;exact this
end Go.Fw
namespace Go.Proofs.YtmehkigmnpjcjaaGreatDoor
open Go.RowKit Go.Fw Go.Fu Go.Pl Go.Proofs.Tryz
set_option maxRecDepth 100000 in
set_option maxHeartbeats 4000000 in
theorem Br(a b:List UInt8)(w:World)(ha:a.length<4611686018427387904)(hb:b.length<4611686018427387904):Calls prog 27 #[.string (bs a),.string (bs b)] w (cB fun v w'=>∃u,v= .tuple #[u,.int .i64 (hZ a b:Int)]∧Own w' TE 3 u (kE (HC a b))∧(∀q,u.ownBlock=some q→w.heap.size≤q)∧Ext w w'):=by
 have hsa:=bT a;have hsb:=bT b;refine ar 103 [4,5] [(0,.string (bs a)),(1,.string (bs b))] func27 rfl rfl rfl aL cz ?_;have hE:Ext w w:=aE.refl;refine CW.sr fun K1 hK1=>WL.a rfl<|WL.a rfl<|WL.nil (hK1 _ _ ?_);clear hK1;refine CW.seq fun K2 hK2=>?_;refine CW.bS 18 ((1000:Int)<((bs a).size:Int)∨(1000:Int)<((bs b).size:Int)) ?_ ?_
 ·refine CW.region<|WL.m rfl<|WL.v (Y.aM underlying9 rfl)<|WL.v (Y.gtr rfl rfl)<|WL.m rfl ?_;refine dO ?_ ?_<;>intro hg14
  ·refine WL.o rfl rfl<|WL.o rfl rfl<|WL.o rfl rfl<|WL.v (Y.pick rfl rfl)<|WL.nil ⟨⟨_,rfl,?_⟩,rfl,Fr.cT⟩;exact aH
  ·refine WL.g rfl rfl (Y.move rfl)<|WL.g rfl rfl (Y.aM underlying9 rfl)<|WL.g rfl rfl (Y.gtr rfl rfl)<|WL.v (Y.pick rfl rfl)<|WL.nil ⟨⟨_,rfl,?_⟩,rfl,Fr.cT⟩;exact aH
 refine bp ?_ ?_<;>intro ht3
 ·refine CW.sr fun K4 hK4=>WL.a rfl<|WL.a rfl<|WL.nil (hK4 _ _ ?_);clear hK4;refine CW.ret ⟨_,rfl,?_⟩;have ht9:(1000:Int)<((bs a).size:Int)∨(1000:Int)<((bs b).size:Int):=by assumption
  have hbig:1000<a.length∨1000<b.length:=by omega
  exact⟨.slice none 0 0,by rw [hZ,if_pos hbig];rfl,by rw [HC,if_pos hbig];exact Own.nil,(fun q h=>by simp [Value.ownBlock]at h),hE⟩
 refine CW.skip ?_;refine hK2 _ _ ?_;clear hK2;refine CW.sr fun K5 hK5=>WL.m rfl<|WL.m rfl<|WL.call func55 rfl rfl rfl (BB a b _ ai ai) aL ?_;rintro v21 w1 hR1;obtain⟨hTab,hx1⟩:=hR1;have hz1:=hx1.size;have hE:=hE.ae hx1;obtain⟨tA,tc,rfl,hrow⟩:=id hTab;have hsm:¬(1000<a.length∨1000<b.length):=by omega
 refine WL.a rfl<|WL.nil (hK5 _ _ ?_);clear hK5;refine CW.sr fun K6 hK6=>WL.yX (z:= .slice none 0 0) aG rfl aw fun g7 w2 hx2 hg7 hB7=>?_;have hlt7:=hB7.lt;have hz2:=hx2.size;have hE:=hE.ae hx2;refine WL.nil (hK6 _ _ ?_);clear hK6;refine CW.sr fun K7 hK7=>WL.v (Y.makeFunc rfl)<|WL.a rfl<|WL.nil (hK7 _ _ ?_);clear hK7;refine CW.sr fun K8 hK8=>WL.a rfl<|WL.a rfl<|WL.nil (hK8 _ _ ?_);clear hK8;refine CW.seq fun K9 hK9=>?_;refine CW.block ?_;refine CW.loop (X:=Nat×Nat×List dm×Value) (fun x=>[(0,.string (bs a)),(1,.string (bs b)),(6,.slice (some tA) (a.length+1) tc),(7,.pointer (some ⟨g7,0,none⟩)),(8,.func (.func 56) #[] #[.pointer (some ⟨g7,0,none⟩)]),(9,.int .i64 (x.1:Int)),(10,.int .i64 (x.2.1:Int))]) (fun x w0=>aK w0 g7 It [x.2.2.2]∧mN a b x.1 x.2.1 x.2.2.1∧Own w0 TE 3 x.2.2.2 (kE x.2.2.1)∧(∀q,x.2.2.2.ownBlock=some q→w1.heap.size≤q)∧aE (fun q=>w1.heap.size≤q) w1 w0∧Ext w w0) (fun x=>(a.length-x.1)+(b.length-x.2.1)) (0,0,[],.slice none 0 0) Fr.ok ⟨hB7,mN.start a b,Own.nil,(fun q h=>by simp [Value.ownBlock]at h),Ext.aA hx2,hE⟩ ?_;intro x w3 hl3;obtain⟨i,j,l,u⟩:=x;dsimp only at hl3⊢;obtain⟨hB7,hM,hO,hfu,hC,hE⟩:=hl3;have hTab2:=hTab.JF hC (fun k h=>h);obtain⟨tA2,tc2,hte,hrow2⟩:=id hTab2;injection hte with hte _ _
 injection hte with hte
 subst hte;have hmi:=hM.hi;have hmj:=hM.hj;have hml:=hM.len;have hzc:=hC.size;have hlt7:=hB7.lt;refine CW.seq fun K10 hK10=>?_;refine CW.bS 32 ((i:Int)<((bs a).size:Int)∨(j:Int)<((bs b).size:Int)) ?_ ?_
 ·refine CW.region<|WL.m rfl<|WL.m rfl<|WL.v (Y.aM underlying9 rfl)<|WL.v (Y.lss rfl rfl)<|WL.m rfl ?_;refine dO ?_ ?_<;>intro hg27
  ·refine WL.o rfl rfl<|WL.o rfl rfl<|WL.o rfl rfl<|WL.o rfl rfl<|WL.v (Y.pick rfl rfl)<|WL.nil ⟨⟨_,rfl,?_⟩,rfl,Fr.cT⟩;exact aH
  ·refine WL.g rfl rfl (Y.move rfl)<|WL.g rfl rfl (Y.move rfl)<|WL.g rfl rfl (Y.aM underlying9 rfl)<|WL.g rfl rfl (Y.lss rfl rfl)<|WL.v (Y.pick rfl rfl)<|WL.nil ⟨⟨_,rfl,?_⟩,rfl,Fr.cT⟩;exact aH
 refine bp ?_ ?_<;>intro ht11
 ·refine CW.skip ?_;refine hK10 _ _ ?_;clear hK10;refine CW.block ?_;refine CW.block ?_;refine CW.cP 42 (((i:Int)<((bs a).size:Int)∧(j:Int)<((bs b).size:Int))∧(((a[i]?).getD 0).toNat:Int)=(((b[j]?).getD 0).toNat:Int)) ?_ ?_
  ·refine CW.quiet (fun wq=>Ext w3 wq) aG aG aE.drew<|QL.m rfl<|QL.m rfl<|QL.v (fun wq hq=>Y.aM underlying9 rfl)<|QL.v (fun wq hq=>Y.lss rfl rfl)<|QL.m rfl ?_;refine dO ?_ ?_<;>intro hg47
   ·refine QL.g rfl rfl (fun wq hq=>Y.move rfl)<|QL.g rfl rfl (fun wq hq=>Y.move rfl)<|QL.g rfl rfl (fun wq hq=>Y.aM underlying9 rfl)<|QL.g rfl rfl (fun wq hq=>Y.lss rfl rfl)<|QL.v (fun wq hq=>Y.pick rfl rfl)<|QL.m rfl ?_;refine dO ?_ ?_<;>intro hg53
    ·refine QL.g rfl rfl (fun wq hq=>Y.move rfl)<|QL.g rfl rfl (fun wq hq=>Y.move rfl)<|QL.g rfl rfl (fun wq hq=>Y.cJ (i:=i) (s:=bs a) underlying9 rfl rfl ai) ?_;rw [Iq];refine QL.g rfl rfl (fun wq hq=>Y.move rfl)<|QL.g rfl rfl (fun wq hq=>Y.move rfl)<|QL.g rfl rfl (fun wq hq=>Y.cJ (i:=j) (s:=bs b) underlying9 rfl rfl ai) ?_;rw [Iq];refine QL.g rfl rfl (fun wq hq=>Y.eql rfl rfl)<|QL.v (fun wq hq=>Y.pick rfl rfl)<|QL.a rfl<|QL.nil fun wq hq=>⟨⟨_,rfl,?_⟩,hq,Fr.cT⟩;exact aH
    ·refine QL.o rfl rfl<|QL.o rfl rfl<|QL.o rfl rfl<|QL.o rfl rfl<|QL.o rfl rfl<|QL.o rfl rfl<|QL.o rfl rfl<|QL.v (fun wq hq=>Y.pick rfl rfl)<|QL.a rfl<|QL.nil fun wq hq=>⟨⟨_,rfl,?_⟩,hq,Fr.cT⟩;exact aH
   ·refine QL.o rfl rfl<|QL.o rfl rfl<|QL.o rfl rfl<|QL.o rfl rfl<|QL.v (fun wq hq=>Y.pick rfl rfl)<|QL.m rfl<|QL.o rfl rfl<|QL.o rfl rfl<|QL.o rfl rfl<|QL.o rfl rfl<|QL.o rfl rfl<|QL.o rfl rfl<|QL.o rfl rfl ?_;refine QL.v (fun wq hq=>Y.pick rfl rfl)<|QL.a rfl<|QL.nil fun wq hq=>⟨⟨_,rfl,?_⟩,hq,Fr.cT⟩;exact aH
  intro w4 hx4;have hz4:=hx4.size;have hE:=hE.ae hx4;have hB7:=hB7.ext hx4;refine bp ?_ ?_<;>intro ht12
  ·refine CW.sr fun K13 hK13=>WL.m rfl<|WL.kp rfl func56 rfl rfl rfl (qn g7 u l (i+j) .mw _ hB7 (hO.ext hx4) ai hM.bd ai) aL ?_;rintro v63 w5 hR5;obtain⟨u2,hB7,hO2,hf2,hc5⟩:=hR5;have hz5:=hc5.size;have hfr2:∀q,u2.ownBlock=some q→w1.heap.size≤q:=fun q hq=>by
    rcases hf2 q hq with h|h
    ·exact hfu q h
    ·omega
   have hCC:aE (fun q=>w1.heap.size≤q) w1 w5:=(hC.ae hx4).trans hc5 (fun q _ h=>by rcases h with h|h;omega;exact hfu q h);have hE:=hE.step hc5 (fun q h=>by rcases h with h|h;omega;have:=hfu q h;omega);refine WL.nil (hK13 _ _ ?_);clear hK13;refine CW.sr fun K14 hK14=>WL.m rfl<|WL.v (Y.add rfl rfl bB)<|WL.a rfl<|WL.nil (hK14 _ _ ?_);clear hK14;refine CW.region<|WL.m rfl<|WL.v (Y.add rfl rfl bB)<|WL.a rfl<|WL.nil ?_;have ht:((i:Int)<((bs a).size:Int)∧(j:Int)<((bs b).size:Int))∧(((a[i]?).getD 0).toNat:Int)=(((b[j]?).getD 0).toNat:Int):=by assumption
   exact⟨(i+1,j+1,fZ l .mw,u2),(by show(a.length-(i+1))+(b.length-(j+1))<(a.length-i)+(b.length-j);omega),Fr.ok,hB7,hM.mw ai ai (UInt8.toNat_inj.1 ai),hO2,hfr2,hCC,hE⟩
  refine CW.cP 68 ((i:Int)<((bs a).size:Int)∧((j:Int)=((bs b).size:Int)∨(iY (a.drop (i+1)) (b.drop j):Int)≤(iY (a.drop i) (b.drop (j+1)):Int))) ?_ ?_
  ·refine CW.quiet (fun wq=>Ext w4 wq) aG aG aE.drew<|QL.m rfl<|QL.m rfl<|QL.v (fun wq hq=>Y.aM underlying9 rfl)<|QL.v (fun wq hq=>Y.lss rfl rfl)<|QL.m rfl ?_;refine dO ?_ ?_<;>intro hg73
   ·refine QL.g rfl rfl (fun wq hq=>Y.move rfl)<|QL.g rfl rfl (fun wq hq=>Y.move rfl)<|QL.g rfl rfl (fun wq hq=>Y.aM underlying9 rfl)<|QL.g rfl rfl (fun wq hq=>Y.eql rfl rfl)<|QL.g rfl rfl (fun wq hq=>Y.move rfl) ?_;refine dO ?_ ?_<;>intro hg78
    ·refine QL.o rfl rfl<|QL.o rfl rfl<|QL.o rfl rfl<|QL.o rfl rfl<|QL.o rfl rfl<|QL.o rfl rfl<|QL.o rfl rfl<|QL.o rfl rfl<|QL.o rfl rfl<|QL.o rfl rfl<|QL.o rfl rfl<|QL.o rfl rfl<|QL.o rfl rfl ?_;refine QL.o rfl rfl<|QL.o rfl rfl<|QL.o rfl rfl<|QL.o rfl rfl<|QL.g rfl rfl (fun wq hq=>Y.pick rfl rfl)<|QL.v (fun wq hq=>Y.pick rfl rfl)<|QL.a rfl<|QL.nil fun wq hq=>⟨⟨_,rfl,?_⟩,hq,Fr.cT⟩;exact aH
    ·obtain⟨r1,k1,hm1,hc1⟩:=hrow2 (i+1) ai;obtain⟨r0,k0,hm0,hc0⟩:=hrow2 i ai;have hm1:=hm1.ext hx4;have hm0:=hm0.ext hx4;have hc1:=fun j h=>(hc1 j h).ext hx4;have hc0:=fun j h=>(hc0 j h).ext hx4;refine QL.g rfl rfl (fun wq hq=>Y.move rfl)<|QL.g rfl rfl (fun wq hq=>Y.move rfl)<|QL.g rfl rfl (fun wq hq=>Y.add rfl rfl bB)<|QL.g rfl rfl (fun wq hq=>Y.af underlying137 rfl rfl eN ai (i:=i+1))<|QL.g rfl rfl (fun wq hq=>Y.ah underlying141 rfl ((hm1.ext hq).cell0) rfl)<|QL.g rfl rfl (fun wq hq=>Y.move rfl)<|QL.g rfl rfl (fun wq hq=>Y.af underlying141 rfl rfl fA ai)<|QL.g rfl rfl (fun wq hq=>Y.ah underlying140 rfl ((hc1 j ai).ext hq).cell0 rfl)<|QL.g rfl rfl (fun wq hq=>Y.move rfl)<|QL.g rfl rfl (fun wq hq=>Y.move rfl)<|QL.g rfl rfl (fun wq hq=>Y.af underlying137 rfl rfl eN ai)<|QL.g rfl rfl (fun wq hq=>Y.ah underlying141 rfl ((hm0.ext hq).cell0) rfl)<|QL.g rfl rfl (fun wq hq=>Y.move rfl) ?_;refine QL.g rfl rfl (fun wq hq=>Y.add rfl rfl bB)<|QL.g rfl rfl (fun wq hq=>Y.af underlying141 rfl rfl fA ai (i:=j+1))<|QL.g rfl rfl (fun wq hq=>Y.ah underlying140 rfl ((hc0 (j+1) ai).ext hq).cell0 rfl)<|QL.g rfl rfl (fun wq hq=>Y.leq rfl rfl)<|QL.g rfl rfl (fun wq hq=>Y.pick rfl rfl)<|QL.v (fun wq hq=>Y.pick rfl rfl)<|QL.a rfl<|QL.nil fun wq hq=>⟨⟨_,rfl,?_⟩,hq,Fr.cT⟩;exact aH
   ·refine QL.o rfl rfl<|QL.o rfl rfl<|QL.o rfl rfl<|QL.o rfl rfl<|QL.o rfl rfl<|QL.bD rfl rfl aw<|QL.bD rfl rfl aw<|QL.bD rfl rfl aw<|QL.bD rfl rfl aw<|QL.bD rfl rfl aw<|QL.bD rfl rfl aw<|QL.bD rfl rfl aw<|QL.bD rfl rfl aw ?_;refine QL.bD rfl rfl aw<|QL.bD rfl rfl aw<|QL.bD rfl rfl aw<|QL.bD rfl rfl aw<|QL.bD rfl rfl aw<|QL.bD rfl rfl aw<|QL.bD rfl rfl aw<|QL.bD rfl rfl aw<|QL.bD rfl rfl aw<|QL.o rfl rfl<|QL.v (fun wq hq=>Y.pick rfl rfl)<|QL.a rfl<|QL.nil fun wq hq=>⟨⟨_,rfl,?_⟩,hq,Fr.cT⟩;exact aH
  intro w6 hx6;have hz6:=hx6.size;have hE:=hE.ae hx6;have hB7:=hB7.ext hx6;refine bp ?_ ?_<;>intro ht15
  ·refine CW.sr fun K16 hK16=>WL.m rfl<|WL.kp rfl func56 rfl rfl rfl (qn g7 u l (i+j) .cut _ hB7 (hO.ext (hx4.ae hx6)) ai hM.bd ai) aL ?_;rintro v99 w7 hR7;obtain⟨u2,hB7,hO2,hf2,hc7⟩:=hR7;have hz7:=hc7.size;have hfr2:∀q,u2.ownBlock=some q→w1.heap.size≤q:=fun q hq=>by
    rcases hf2 q hq with h|h
    ·exact hfu q h
    ·omega
   have hCC:aE (fun q=>w1.heap.size≤q) w1 w7:=(hC.ae (hx4.ae hx6)).trans hc7 (fun q _ h=>by rcases h with h|h;omega;exact hfu q h);have hE:=hE.step hc7 (fun q h=>by rcases h with h|h;omega;have:=hfu q h;omega);refine WL.nil (hK16 _ _ ?_);clear hK16;refine CW.region<|WL.m rfl<|WL.v (Y.add rfl rfl bB)<|WL.a rfl<|WL.nil ?_;have hn:¬(((i:Int)<((bs a).size:Int)∧(j:Int)<((bs b).size:Int))∧(((a[i]?).getD 0).toNat:Int)=(((b[j]?).getD 0).toNat:Int)):=by assumption
   have ht:(i:Int)<((bs a).size:Int)∧((j:Int)=((bs b).size:Int)∨(iY (a.drop (i+1)) (b.drop j):Int)≤(iY (a.drop i) (b.drop (j+1)):Int)):=by assumption
   exact⟨(i+1,j,fZ l .cut,u2),(by show(a.length-(i+1))+(b.length-(j))<(a.length-i)+(b.length-j);omega),Fr.ok,hB7,hM.cut ai (fun h=>hn ⟨bB,by rw [h.2]⟩) ai,hO2,hfr2,hCC,hE⟩
  refine CW.sr fun K17 hK17=>WL.m rfl<|WL.m rfl<|WL.m rfl<|WL.m rfl<|WL.v (Y.add rfl rfl bB)<|WL.v (Y.uD (i:=j) (j:=j+1) underlying9 rfl rfl rfl rfl rfl ai ai) ?_;rw [DM ai];refine WL.kp rfl func56 rfl rfl rfl (qn g7 u l (i+j) (.put ((b[j]?).getD 0)) _ hB7 (hO.ext (hx4.ae hx6)) ai hM.bd ai) aL ?_;rintro v39 w8 hR8;obtain⟨u2,hB7,hO2,hf2,hc8⟩:=hR8;have hz8:=hc8.size;have hfr2:∀q,u2.ownBlock=some q→w1.heap.size≤q:=fun q hq=>by
   rcases hf2 q hq with h|h
   ·exact hfu q h
   ·omega
  have hCC:aE (fun q=>w1.heap.size≤q) w1 w8:=(hC.ae (hx4.ae hx6)).trans hc8 (fun q _ h=>by rcases h with h|h;omega;exact hfu q h);have hE:=hE.step hc8 (fun q h=>by rcases h with h|h;omega;have:=hfu q h;omega);refine WL.nil (hK17 _ _ ?_);clear hK17;refine CW.region<|WL.m rfl<|WL.v (Y.add rfl rfl bB)<|WL.a rfl<|WL.nil ?_;have hn:¬(((i:Int)<((bs a).size:Int)∧(j:Int)<((bs b).size:Int))∧(((a[i]?).getD 0).toNat:Int)=(((b[j]?).getD 0).toNat:Int)):=by assumption
  have hn2:¬((i:Int)<((bs a).size:Int)∧((j:Int)=((bs b).size:Int)∨(iY (a.drop (i+1)) (b.drop j):Int)≤(iY (a.drop i) (b.drop (j+1)):Int))):=by assumption
  exact⟨(i,j+1,fZ l (.put ((b[j]?).getD 0)),u2),(by show(a.length-(i))+(b.length-(j+1))<(a.length-i)+(b.length-j);omega),Fr.ok,hB7,hM.put ai (fun h=>hn ⟨bB,by rw [h.2]⟩) (fun h=>hn2 ⟨by omega,.inr ai⟩),hO2,hfr2,hCC,hE⟩
 refine CW.exit ?_;refine hK9 _ _ ?_;clear hK9;refine CW.sr fun K18 hK18=>WL.v (Y.ah underlying83 rfl hB7.mem.cell0 rfl)<|WL.a rfl<|WL.a rfl<|WL.nil (hK18 _ _ ?_);clear hK18;refine CW.ret ⟨_,rfl,?_⟩;have hn0:¬((i:Int)<((bs a).size:Int)∨(j:Int)<((bs b).size:Int)):=by assumption
 have ei:i=a.length:=by omega
 have ej:j=b.length:=by omega
 subst ei;subst ej;have hfin:=hM.fin;subst hfin;exact⟨u,by rw [hZ,if_neg hsm];rfl,by rw [HC,if_neg hsm];exact hO,(fun q hq=>by have:=hfu q hq;omega),hE⟩
set_option maxRecDepth 100000 in
set_option maxHeartbeats 4000000 in
theorem Bm(a b:List UInt8)(w:World)(ha:a.length<4611686018427387904)(hb:b.length<4611686018427387904):Calls prog 40 #[.string (bs a),.string (bs b)] w (cB fun v w'=>∃u,v= .tuple #[u,.int .i64 (hZ a b:Int)]∧Own w' TE 3 u (kE (HC a b))∧(∀q,u.ownBlock=some q→w.heap.size≤q)∧Ext w w'):=by
 have hsa:=bT a;have hsb:=bT b;refine ar 99 [4,5] [(0,.string (bs a)),(1,.string (bs b))] func40 rfl rfl rfl aL cz ?_;have hE:Ext w w:=aE.refl;refine CW.sr fun K1 hK1=>WL.a rfl<|WL.a rfl<|WL.nil (hK1 _ _ ?_);clear hK1;refine CW.seq fun K2 hK2=>?_;refine CW.bS 17 ((1000:Int)<((bs a).size:Int)∨(1000:Int)<((bs b).size:Int)) ?_ ?_
 ·refine CW.region<|WL.m rfl<|WL.v (Y.aM underlying9 rfl)<|WL.v (Y.gtr rfl rfl)<|WL.m rfl ?_;refine dO ?_ ?_<;>intro hg13
  ·refine WL.o rfl rfl<|WL.o rfl rfl<|WL.o rfl rfl<|WL.v (Y.pick rfl rfl)<|WL.nil ⟨⟨_,rfl,?_⟩,rfl,Fr.cT⟩;exact aH
  ·refine WL.g rfl rfl (Y.move rfl)<|WL.g rfl rfl (Y.aM underlying9 rfl)<|WL.g rfl rfl (Y.gtr rfl rfl)<|WL.v (Y.pick rfl rfl)<|WL.nil ⟨⟨_,rfl,?_⟩,rfl,Fr.cT⟩;exact aH
 refine bp ?_ ?_<;>intro ht3
 ·refine CW.sr fun K4 hK4=>WL.a rfl<|WL.a rfl<|WL.nil (hK4 _ _ ?_);clear hK4;refine CW.ret ⟨_,rfl,?_⟩;have ht9:(1000:Int)<((bs a).size:Int)∨(1000:Int)<((bs b).size:Int):=by assumption
  have hbig:1000<a.length∨1000<b.length:=by omega
  exact⟨.slice none 0 0,by rw [hZ,if_pos hbig];rfl,by rw [HC,if_pos hbig];exact Own.nil,(fun q h=>by simp [Value.ownBlock]at h),hE⟩
 refine CW.skip ?_;refine hK2 _ _ ?_;clear hK2;refine CW.sr fun K5 hK5=>WL.m rfl<|WL.m rfl<|WL.call func69 rfl rfl rfl (Ck a b _ ai ai) aL ?_;rintro v20 w1 hR1;obtain⟨hTab,hx1⟩:=hR1;have hz1:=hx1.size;have hE:=hE.ae hx1;obtain⟨tA,tc,rfl,hrow⟩:=id hTab;have hsm:¬(1000<a.length∨1000<b.length):=by omega
 refine WL.a rfl<|WL.nil (hK5 _ _ ?_);clear hK5;refine CW.sr fun K6 hK6=>WL.a rfl<|WL.nil (hK6 _ _ ?_);clear hK6;refine CW.sr fun K7 hK7=>WL.a rfl<|WL.nil (hK7 _ _ ?_);clear hK7;refine CW.sr fun K8 hK8=>WL.a rfl<|WL.nil (hK8 _ _ ?_);clear hK8;refine CW.seq fun K9 hK9=>?_;refine CW.block ?_;refine CW.loop (X:=Nat×Nat×List dm×Value) (fun x=>[(0,.string (bs a)),(1,.string (bs b)),(6,.slice (some tA) (a.length+1) tc),(7,x.2.2.2),(8,.int .i64 (x.1:Int)),(9,.int .i64 (x.2.1:Int))]) (fun x w0=>mN a b x.1 x.2.1 x.2.2.1∧Own w0 TE 3 x.2.2.2 (kE x.2.2.1)∧(∀q,x.2.2.2.ownBlock=some q→w1.heap.size≤q)∧aE (fun q=>w1.heap.size≤q) w1 w0∧Ext w w0) (fun x=>(a.length-x.1)+(b.length-x.2.1)) (0,0,[],.slice none 0 0) Fr.ok ⟨mN.start a b,Own.nil,(fun q h=>by simp [Value.ownBlock]at h),aE.refl,hE⟩ ?_;intro x w2 hl2;obtain⟨i,j,l,u⟩:=x;dsimp only at hl2⊢;obtain⟨hM,hO,hfu,hC,hE⟩:=hl2;have hTab2:=hTab.JF hC (fun k h=>h);obtain⟨tA2,tc2,hte,hrow2⟩:=id hTab2;injection hte with hte _ _
 injection hte with hte
 subst hte;have hmi:=hM.hi;have hmj:=hM.hj;have hml:=hM.len;have hzc:=hC.size;refine CW.seq fun K10 hK10=>?_;refine CW.bS 30 ((i:Int)<((bs a).size:Int)∨(j:Int)<((bs b).size:Int)) ?_ ?_
 ·refine CW.region<|WL.m rfl<|WL.m rfl<|WL.v (Y.aM underlying9 rfl)<|WL.v (Y.lss rfl rfl)<|WL.m rfl ?_;refine dO ?_ ?_<;>intro hg25
  ·refine WL.o rfl rfl<|WL.o rfl rfl<|WL.o rfl rfl<|WL.o rfl rfl<|WL.v (Y.pick rfl rfl)<|WL.nil ⟨⟨_,rfl,?_⟩,rfl,Fr.cT⟩;exact aH
  ·refine WL.g rfl rfl (Y.move rfl)<|WL.g rfl rfl (Y.move rfl)<|WL.g rfl rfl (Y.aM underlying9 rfl)<|WL.g rfl rfl (Y.lss rfl rfl)<|WL.v (Y.pick rfl rfl)<|WL.nil ⟨⟨_,rfl,?_⟩,rfl,Fr.cT⟩;exact aH
 refine bp ?_ ?_<;>intro ht11
 ·refine CW.skip ?_;refine hK10 _ _ ?_;clear hK10;refine CW.block ?_;refine CW.cP 49 (((i:Int)<((bs a).size:Int)∧(j:Int)<((bs b).size:Int))∧(((a[i]?).getD 0).toNat:Int)=(((b[j]?).getD 0).toNat:Int)) ?_ ?_
  ·refine CW.quiet (fun wq=>Ext w2 wq) aG aG aE.drew<|QL.m rfl<|QL.m rfl<|QL.v (fun wq hq=>Y.aM underlying9 rfl)<|QL.v (fun wq hq=>Y.lss rfl rfl)<|QL.m rfl ?_;refine dO ?_ ?_<;>intro hg35
   ·refine QL.g rfl rfl (fun wq hq=>Y.move rfl)<|QL.g rfl rfl (fun wq hq=>Y.move rfl)<|QL.g rfl rfl (fun wq hq=>Y.aM underlying9 rfl)<|QL.g rfl rfl (fun wq hq=>Y.lss rfl rfl)<|QL.v (fun wq hq=>Y.pick rfl rfl)<|QL.m rfl ?_;refine dO ?_ ?_<;>intro hg41
    ·refine QL.g rfl rfl (fun wq hq=>Y.move rfl)<|QL.g rfl rfl (fun wq hq=>Y.move rfl)<|QL.g rfl rfl (fun wq hq=>Y.cJ (i:=i) (s:=bs a) underlying9 rfl rfl ai) ?_;rw [Iq];refine QL.g rfl rfl (fun wq hq=>Y.move rfl)<|QL.g rfl rfl (fun wq hq=>Y.move rfl)<|QL.g rfl rfl (fun wq hq=>Y.cJ (i:=j) (s:=bs b) underlying9 rfl rfl ai) ?_;rw [Iq];refine QL.g rfl rfl (fun wq hq=>Y.eql rfl rfl)<|QL.v (fun wq hq=>Y.pick rfl rfl)<|QL.nil fun wq hq=>⟨⟨_,rfl,?_⟩,hq,Fr.cT⟩;exact aH
    ·refine QL.o rfl rfl<|QL.o rfl rfl<|QL.o rfl rfl<|QL.o rfl rfl<|QL.o rfl rfl<|QL.o rfl rfl<|QL.o rfl rfl<|QL.v (fun wq hq=>Y.pick rfl rfl)<|QL.nil fun wq hq=>⟨⟨_,rfl,?_⟩,hq,Fr.cT⟩;exact aH
   ·refine QL.o rfl rfl<|QL.o rfl rfl<|QL.o rfl rfl<|QL.o rfl rfl<|QL.v (fun wq hq=>Y.pick rfl rfl)<|QL.m rfl<|QL.o rfl rfl<|QL.o rfl rfl<|QL.o rfl rfl<|QL.o rfl rfl<|QL.o rfl rfl<|QL.o rfl rfl<|QL.o rfl rfl ?_;refine QL.v (fun wq hq=>Y.pick rfl rfl)<|QL.nil fun wq hq=>⟨⟨_,rfl,?_⟩,hq,Fr.cT⟩;exact aH
  intro w3 hx3;have hz3:=hx3.size;have hE:=hE.ae hx3;refine bp ?_ ?_<;>intro ht12
  ·refine CW.sr fun K13 hK13=>WL.m rfl<|WL.call func70 rfl rfl rfl (tG u l (i+j) .mw _ (hO.ext hx3) ai hM.bd ai) aL ?_;rintro v51 w4 hR4;obtain⟨hO2,hf2,hc4⟩:=hR4;have hz4:=hc4.size;have hfr2:∀q,v51.ownBlock=some q→w1.heap.size≤q:=fun q hq=>by
    rcases hf2 q hq with h|h
    ·exact hfu q h
    ·omega
   have hCC:aE (fun q=>w1.heap.size≤q) w1 w4:=(hC.ae hx3).trans hc4 (fun q _ h=>hfu q h);have hE:=hE.step hc4 (fun q h=>by have:=hfu q h;omega);refine WL.a rfl<|WL.nil (hK13 _ _ ?_);clear hK13;refine CW.sr fun K14 hK14=>WL.m rfl<|WL.v (Y.add rfl rfl bB)<|WL.a rfl<|WL.nil (hK14 _ _ ?_);clear hK14;refine CW.region<|WL.m rfl<|WL.v (Y.add rfl rfl bB)<|WL.a rfl<|WL.nil ?_;have ht:((i:Int)<((bs a).size:Int)∧(j:Int)<((bs b).size:Int))∧(((a[i]?).getD 0).toNat:Int)=(((b[j]?).getD 0).toNat:Int):=by assumption
   exact⟨(i+1,j+1,fZ l .mw,v51),(by show(a.length-(i+1))+(b.length-(j+1))<(a.length-i)+(b.length-j);omega),Fr.ok,hM.mw ai ai (UInt8.toNat_inj.1 ai),hO2,hfr2,hCC,hE⟩
  refine CW.cP 84 ((i:Int)<((bs a).size:Int)∧((j:Int)=((bs b).size:Int)∨(iY (a.drop (i+1)) (b.drop j):Int)≤(iY (a.drop i) (b.drop (j+1)):Int))) ?_ ?_
  ·refine CW.quiet (fun wq=>Ext w3 wq) aG aG aE.drew<|QL.m rfl<|QL.m rfl<|QL.v (fun wq hq=>Y.aM underlying9 rfl)<|QL.v (fun wq hq=>Y.lss rfl rfl)<|QL.m rfl ?_;refine dO ?_ ?_<;>intro hg60
   ·refine QL.g rfl rfl (fun wq hq=>Y.move rfl)<|QL.g rfl rfl (fun wq hq=>Y.move rfl)<|QL.g rfl rfl (fun wq hq=>Y.aM underlying9 rfl)<|QL.g rfl rfl (fun wq hq=>Y.eql rfl rfl)<|QL.g rfl rfl (fun wq hq=>Y.move rfl) ?_;refine dO ?_ ?_<;>intro hg65
    ·refine QL.o rfl rfl<|QL.o rfl rfl<|QL.o rfl rfl<|QL.o rfl rfl<|QL.o rfl rfl<|QL.o rfl rfl<|QL.o rfl rfl<|QL.o rfl rfl<|QL.o rfl rfl<|QL.o rfl rfl<|QL.o rfl rfl<|QL.o rfl rfl<|QL.o rfl rfl ?_;refine QL.o rfl rfl<|QL.o rfl rfl<|QL.o rfl rfl<|QL.o rfl rfl<|QL.g rfl rfl (fun wq hq=>Y.pick rfl rfl)<|QL.v (fun wq hq=>Y.pick rfl rfl)<|QL.nil fun wq hq=>⟨⟨_,rfl,?_⟩,hq,Fr.cT⟩;exact aH
    ·obtain⟨r1,k1,hm1,hc1⟩:=hrow2 (i+1) ai;obtain⟨r0,k0,hm0,hc0⟩:=hrow2 i ai;have hm1:=hm1.ext hx3;have hm0:=hm0.ext hx3;have hc1:=fun j h=>(hc1 j h).ext hx3;have hc0:=fun j h=>(hc0 j h).ext hx3;refine QL.g rfl rfl (fun wq hq=>Y.move rfl)<|QL.g rfl rfl (fun wq hq=>Y.move rfl)<|QL.g rfl rfl (fun wq hq=>Y.add rfl rfl bB)<|QL.g rfl rfl (fun wq hq=>Y.af underlying155 rfl rfl iF ai (i:=i+1))<|QL.g rfl rfl (fun wq hq=>Y.ah underlying23 rfl ((hm1.ext hq).cell0) rfl)<|QL.g rfl rfl (fun wq hq=>Y.move rfl)<|QL.g rfl rfl (fun wq hq=>Y.af underlying23 rfl rfl dq ai)<|QL.g rfl rfl (fun wq hq=>Y.ah underlying3 rfl ((hc1 j ai).ext hq).cell0 rfl)<|QL.g rfl rfl (fun wq hq=>Y.move rfl)<|QL.g rfl rfl (fun wq hq=>Y.move rfl)<|QL.g rfl rfl (fun wq hq=>Y.af underlying155 rfl rfl iF ai)<|QL.g rfl rfl (fun wq hq=>Y.ah underlying23 rfl ((hm0.ext hq).cell0) rfl)<|QL.g rfl rfl (fun wq hq=>Y.move rfl) ?_;refine QL.g rfl rfl (fun wq hq=>Y.add rfl rfl bB)<|QL.g rfl rfl (fun wq hq=>Y.af underlying23 rfl rfl dq ai (i:=j+1))<|QL.g rfl rfl (fun wq hq=>Y.ah underlying3 rfl ((hc0 (j+1) ai).ext hq).cell0 rfl)<|QL.g rfl rfl (fun wq hq=>Y.leq rfl rfl)<|QL.g rfl rfl (fun wq hq=>Y.pick rfl rfl)<|QL.v (fun wq hq=>Y.pick rfl rfl)<|QL.nil fun wq hq=>⟨⟨_,rfl,?_⟩,hq,Fr.cT⟩;exact aH
   ·refine QL.o rfl rfl<|QL.o rfl rfl<|QL.o rfl rfl<|QL.o rfl rfl<|QL.o rfl rfl<|QL.bD rfl rfl aw<|QL.bD rfl rfl aw<|QL.bD rfl rfl aw<|QL.bD rfl rfl aw<|QL.bD rfl rfl aw<|QL.bD rfl rfl aw<|QL.bD rfl rfl aw<|QL.bD rfl rfl aw ?_;refine QL.bD rfl rfl aw<|QL.bD rfl rfl aw<|QL.bD rfl rfl aw<|QL.bD rfl rfl aw<|QL.bD rfl rfl aw<|QL.bD rfl rfl aw<|QL.bD rfl rfl aw<|QL.bD rfl rfl aw<|QL.bD rfl rfl aw<|QL.o rfl rfl<|QL.v (fun wq hq=>Y.pick rfl rfl)<|QL.nil fun wq hq=>⟨⟨_,rfl,?_⟩,hq,Fr.cT⟩;exact aH
  intro w5 hx5;have hz5:=hx5.size;have hE:=hE.ae hx5;refine bp ?_ ?_<;>intro ht15
  ·refine CW.sr fun K16 hK16=>WL.m rfl<|WL.call func70 rfl rfl rfl (tG u l (i+j) .cut _ (hO.ext (hx3.ae hx5)) ai hM.bd ai) aL ?_;rintro v86 w6 hR6;obtain⟨hO2,hf2,hc6⟩:=hR6;have hz6:=hc6.size;have hfr2:∀q,v86.ownBlock=some q→w1.heap.size≤q:=fun q hq=>by
    rcases hf2 q hq with h|h
    ·exact hfu q h
    ·omega
   have hCC:aE (fun q=>w1.heap.size≤q) w1 w6:=(hC.ae (hx3.ae hx5)).trans hc6 (fun q _ h=>hfu q h);have hE:=hE.step hc6 (fun q h=>by have:=hfu q h;omega);refine WL.a rfl<|WL.nil (hK16 _ _ ?_);clear hK16;refine CW.region<|WL.m rfl<|WL.v (Y.add rfl rfl bB)<|WL.a rfl<|WL.nil ?_;have hn:¬(((i:Int)<((bs a).size:Int)∧(j:Int)<((bs b).size:Int))∧(((a[i]?).getD 0).toNat:Int)=(((b[j]?).getD 0).toNat:Int)):=by assumption
   have ht:(i:Int)<((bs a).size:Int)∧((j:Int)=((bs b).size:Int)∨(iY (a.drop (i+1)) (b.drop j):Int)≤(iY (a.drop i) (b.drop (j+1)):Int)):=by assumption
   exact⟨(i+1,j,fZ l .cut,v86),(by show(a.length-(i+1))+(b.length-(j))<(a.length-i)+(b.length-j);omega),Fr.ok,hM.cut ai (fun h=>hn ⟨bB,by rw [h.2]⟩) ai,hO2,hfr2,hCC,hE⟩
  refine CW.sr fun K17 hK17=>WL.m rfl<|WL.m rfl<|WL.m rfl<|WL.m rfl<|WL.v (Y.add rfl rfl bB)<|WL.v (Y.uD (i:=j) (j:=j+1) underlying9 rfl rfl rfl rfl rfl ai ai) ?_;rw [DM ai];refine WL.call func70 rfl rfl rfl (tG u l (i+j) (.put ((b[j]?).getD 0)) _ (hO.ext (hx3.ae hx5)) ai hM.bd ai) aL ?_;rintro v95 w7 hR7;obtain⟨hO2,hf2,hc7⟩:=hR7;have hz7:=hc7.size;have hfr2:∀q,v95.ownBlock=some q→w1.heap.size≤q:=fun q hq=>by
   rcases hf2 q hq with h|h
   ·exact hfu q h
   ·omega
  have hCC:aE (fun q=>w1.heap.size≤q) w1 w7:=(hC.ae (hx3.ae hx5)).trans hc7 (fun q _ h=>hfu q h);have hE:=hE.step hc7 (fun q h=>by have:=hfu q h;omega);refine WL.a rfl<|WL.nil (hK17 _ _ ?_);clear hK17;refine CW.region<|WL.m rfl<|WL.v (Y.add rfl rfl bB)<|WL.a rfl<|WL.nil ?_;have hn:¬(((i:Int)<((bs a).size:Int)∧(j:Int)<((bs b).size:Int))∧(((a[i]?).getD 0).toNat:Int)=(((b[j]?).getD 0).toNat:Int)):=by assumption
  have hn2:¬((i:Int)<((bs a).size:Int)∧((j:Int)=((bs b).size:Int)∨(iY (a.drop (i+1)) (b.drop j):Int)≤(iY (a.drop i) (b.drop (j+1)):Int))):=by assumption
  exact⟨(i,j+1,fZ l (.put ((b[j]?).getD 0)),v95),(by show(a.length-(i))+(b.length-(j+1))<(a.length-i)+(b.length-j);omega),Fr.ok,hM.put ai (fun h=>hn ⟨bB,by rw [h.2]⟩) (fun h=>hn2 ⟨by omega,.inr ai⟩),hO2,hfr2,hCC,hE⟩
 refine CW.exit ?_;refine hK9 _ _ ?_;clear hK9;refine CW.sr fun K18 hK18=>WL.m rfl<|WL.a rfl<|WL.a rfl<|WL.nil (hK18 _ _ ?_);clear hK18;refine CW.ret ⟨_,rfl,?_⟩;have hn0:¬((i:Int)<((bs a).size:Int)∨(j:Int)<((bs b).size:Int)):=by assumption
 have ei:i=a.length:=by omega
 have ej:j=b.length:=by omega
 subst ei;subst ej;have hfin:=hM.fin;subst hfin;exact⟨u,by rw [hZ,if_neg hsm];rfl,by rw [HC,if_neg hsm];exact hO,(fun q hq=>by have:=hfu q hq;omega),hE⟩
end Go.Proofs.YtmehkigmnpjcjaaGreatDoor
namespace Go.Proofs.YtmehkigmnpjcjaaGreatDoor
open Go.Fw Go.Pl Go.Fu Go.Proofs.Tryz
noncomputable def zh(P:List bx)(ids:List aD)(au no:ByteArray)(b:List UInt8):Int:=
 if rl P ids []≠0 then rl P ids []else if mi au.toList=false then 11 else if 200<no.size then 3 else(hZ (C3 P ids) b:Int)
noncomputable def Kg(P:List bx)(ids:List aD)(au no:ByteArray)(b:List UInt8):bx:=⟨C0 P ids [],au,no,Al (Hq P ids).e b⟩
noncomputable def wy(P:List bx)(ids:List aD)(au no:ByteArray)(b:List UInt8):bx:=if zh P ids au no b=0 then Kg P ids au no b else HP
section
variable {P:List bx} {ids:List aD} {au no:ByteArray} {b:List UInt8}
theorem sN(h:rl P ids []=0):lH P ids=0:=by
 have:=(HW.1 h).1;rwa [List.append_nil]at this
theorem Fh(h:rl P ids []=0):C3 P ids=bZ (Hq P ids).e:=by rw [C3,if_pos (sN h)]
end
end Go.Proofs.YtmehkigmnpjcjaaGreatDoor
namespace Go.Fw
open Go.RowKit
def Ha{σ α:Type}(P:Program)(gf:Nat)(lb:List Value)(w:World)(Setup:World→σ→World→Prop)(xs:σ→List α)(encs:α→List Value)(T0:Nat→Prop)(pS:σ→Nat→Nat→Prop)(At:σ→Nat→World→Prop)(Fin:World→Prop)(N:σ→Nat→World→Prop):Prop:=
 ∀(l:Nat) (w1:World) (J:σ→Nat→World→Prop) (Jx:World→Prop),Ext w w1→
  (∀s V,aE T0 w1 V→Setup w1 s V→J s 0 V)→
  (∀s i V V',J s i V→aE T0 V V'→J s i V')→
  (∀V V',Jx V→aE T0 V V'→Jx V')→
  (∀s i V,J s i V→N s i V)→
  (∀s i x V,J s i V→(xs s)[i]? =some x→At s i V→
   YieldAt (FX none) 0 P l (encs x).toArray V (fun e V'=>∃b,e= .returned (.bool b)∧((b=true∧J s (i+1) V'∧aE (fun k=>¬pS s i k) V V')∨(b=false∧Jx V'∧aE (fun k=>¬pS s i k) V V'))))→
  Calls P gf (.func (.yield l) #[] #[]::lb).toArray w1 (cB fun _ V=>((∃s,J s (xs s).length V)∨Jx V)∧Fin V)
theorem CN.DI{P:Program}{m:Nat}{ds:List Deferred}{Φ:Exit→List Deferred→Fr→World→Prop}{fr:Fr}{w:World}{σ α:Type}{g:Operand}{ps:List Nat}{assign body:Code}{gf:Nat}{lb:List Value}{fn:Func}
  {Setup:World→σ→World→Prop} {xs:σ→List α} {encs:α→List Value} {T0:Nat→Prop} {pS:σ→Nat→Nat→Prop} {At:σ→Nat→World→Prop} {Fin:World→Prop} {N:σ→Nat→World→Prop}
  (hg:ev fr g=some (.func (.func gf) #[] lb.toArray)) (hf:P.funcs[gf]? =some fn) (hb:fn.body.isNone=false) (hn:(fn.name== "runtime.NumGoroutine")=false)
  (hit:Ha P gf lb w Setup xs encs T0 pS At Fin N) (hps:∀x,(encs x).length=ps.length) (hpm:∀p∈ps,p<m)
  (hT0:∀k,T0 k→k<w.heap.size) (hK:∀w1 s V,w.heap.size+2≤w1.heap.size→Setup w1 s V→∀i,¬pS s i (w.heap.size+1))
  (I:σ→Nat→World→Prop) (Ix:σ→Exit→World→Prop)
  (h0:∀w1 s V,Ext w w1→w.heap.size+2≤w1.heap.size→aE T0 w1 V→Setup w1 s V→I s 0 V)
  (hI:∀s i V V',I s i V→aE (fun k=>T0 k∨k=w.heap.size+1) V V'→I s i V')
  (hIx:∀s e V V',Ix s e V→aE (fun k=>T0 k∨k=w.heap.size+1) V V'→Ix s e V')
  (hN:∀s i V,I s i V→N s i V)
  (hround:∀s i x V,I s i V→(xs s)[i]? =some x→At s i V→w.heap.size+2≤V.heap.size→
   CW P assign (m,[],some (w.heap.size+1)) (mL (fun f V1=>Ext V V1∧∀V2,aE (fun k=>k=w.heap.size+1) V1 V2→
    CW P body (m,[],some (w.heap.size+1)) (HZ (w.heap.size+1) w.heap.size (pS s i) (I s (i+1)) (Ix s) V2) f V2) (fun _ _ _=>False)) (zS ps (encs x) fr) V)
  (hdone:∀s V,I s (xs s).length V→V.heap[w.heap.size]? =some (.deferred (some []))→(∃V0,Fin V0∧aE (fun k=>k=w.heap.size+1) V0 V)→Φ .normal (mark w.heap.size::ds) fr V)
  (hleave:∀s e V,Ix s e V→V.heap[w.heap.size]? =some (.deferred (some []))→(∃V0,Fin V0∧aE (fun k=>k=w.heap.size+1) V0 V)→e= .ret∨(∃id,e= .exit id)∨(∃t,e= .goto t)→Φ e (mark w.heap.size::ds) fr V):
  CN P (.rangeFunc g ps.toArray assign body) m none ds Φ fr w:=by
 intro a ha;refine wpIn_rangeFunc fun fn0 _=>?_;obtain⟨rec,hrec⟩:∃rec:LoopState→Option Code→Loop,rec=fun st pe=>{state:=st,pending:=pe,fn:=fn0,tmps:=a.tmps,params:=ps.toArray,assign,body,defers:=w.heap.size}:=⟨_,rfl⟩;obtain⟨W1,hW1⟩:∃W1,(w.alloc (.deferred (some []))).alloc (.loop (rec .ready none))=W1:=⟨_,rfl⟩;have hx1:Ext w W1:=by rw [←hW1];exact(aE.alloc _).trans (aE.alloc (S:=fun _=>False) _) (fun _ _ f=>f)
 have hz1:W1.heap.size=w.heap.size+2:=by rw [←hW1];simp
 have hL1:W1.heap[w.heap.size+1]? =some (.loop (rec .ready none)):=by
  rw [←hW1];have:=World.alloc_heap_new (w.alloc (.deferred (some []))) (.loop (rec .ready none));rwa [World.size_alloc]at this
 have hD1:W1.heap[w.heap.size]? =some (.deferred (some [])):=by
  rw [←hW1];exact(Below.heap_alloc _ _ _ aL).trans (World.alloc_heap_new w _)
 refine⟨w.heap.size+1,[mark w.heap.size],W1,{target:= .fn (.func gf) lb.toArray,args:=#[.func (.yield (w.heap.size+1)) #[] #[]]},W1,gf,
  #[.func (.yield (w.heap.size+1)) #[] #[]]++lb.toArray,W1,?_,?_,fun _ _=>trivial,?_,fun hx=>(by simp [FX]at hx),?_⟩
 ·rw [←hW1,hrec];exact run_enterLoop_outer _ _ _ _ _
 ·have e:=ha.ev hg;simp only [resolve,e];simp [Deferred.ofValue,Act.eval]
 ·simp [invoke,dT hf hb hn]
 ·refine oq.2 ?_;have hdef:∀V:World,(a.defers=ds)→ju (m,mark w.heap.size::ds,none) {a with defers:=mark w.heap.size::a.defers} fr:=fun V hd=>⟨ha.size,by rw [hd],ha.get⟩;have hend:∀(st:LoopState) (pe:Option Code) (V:World),st≠.busy→V.heap[w.heap.size+1]? =some (.loop (rec st pe))→
    (Instr.endLoop (w.heap.size+1)).run P V= .ok pe (V.putObj (w.heap.size+1) (.loop (rec .exhausted pe))):=fun st pe V hs hv=>by
   have:=run_endLoop (P:=P) hv (by rw [hrec];exact hs);rw [hrec]at this⊢;exact this
  have key:=hit (w.heap.size+1) W1
   (fun s i V=>I s i V∧V.heap[w.heap.size+1]? =some (.loop (rec .ready none))∧V.heap[w.heap.size]? =some (.deferred (some []))∧w.heap.size+2≤V.heap.size∧∀i,¬pS s i (w.heap.size+1))
   (fun V=>∃s e c,Ix s e V∧V.heap[w.heap.size+1]? =some (.loop (rec .done (some c)))∧V.heap[w.heap.size]? =some (.deferred (some []))∧w.heap.size+2≤V.heap.size∧
    ((e= .ret∧c= .ret)∨(∃id,e= .exit id∧c= .exit id)∨(∃t,e= .goto t∧c= .goto t))) hx1
   (fun s V hc hs=>⟨h0 W1 s V hx1 ai hc hs,(hc.block _ ai (fun h=>by have:=hT0 _ h;omega)).trans hL1,(hc.block _ ai (fun h=>by have:=hT0 _ h;omega)).trans hD1,by have:=hc.size;omega,hK W1 s V ai hs⟩)
   (fun s i V V' hJ hc=>⟨hI s i V V' hJ.1 (hc.mono fun _ _ h=>.inl h),(hc.block _ ai (fun h=>by have:=hT0 _ h;omega)).trans hJ.2.1,(hc.block _ ai (fun h=>by have:=hT0 _ h;omega)).trans hJ.2.2.1,by have:=hc.size;omega,hJ.2.2.2.2⟩)
   (fun V V' hJ hc=>by
    obtain⟨s,e,c,h1,h2,h3,h4,h5⟩:=hJ;exact⟨s,e,c,hIx s e V V' h1 (hc.mono fun _ _ h=>.inl h),(hc.block _ ai (fun h=>by have:=hT0 _ h;omega)).trans h2,(hc.block _ ai (fun h=>by have:=hT0 _ h;omega)).trans h3,by have:=hc.size;omega,h5⟩)
   (fun s i V hJ=>hN s i V hJ.1)
   (fun s i x V hJ hx hAt=>by
    obtain⟨hi,hl,hD,hz,hk⟩:=hJ;have hy:=run_yield (P:=P) (args:=(encs x).toArray) hl (by rw [hrec];simp [hps x]);rw [hrec]at hy;refine⟨fn0,_,assign,body,hy,roundIn_of_wpIn trivial ?_⟩;have hrep:ju (m,[],some (w.heap.size+1)) {tmps:=(ps.toArray.zip (encs x).toArray).foldl (fun t (p,v)=>t.setIfInBounds p v) a.tmps,defers:=[]} (zS ps (encs x) fr):=by
     have h1:ju (m,[],some (w.heap.size+1)) {tmps:=a.tmps,defers:=[]} fr:=⟨ha.size,rfl,ha.get⟩;have:=ju.zip (vs:=encs x) hpm h1;simpa using this
    refine wpIn_mono (hround s i x V hi hx hAt hz _ hrep) ?_;rintro e a1 V1 ⟨f,hf1,hp⟩;cases e with
    |normal=>
     obtain⟨hx2,hbody⟩:=hp;have hl1:=(hx2.block _ ai (fun h=>h)).trans hl;have hD1:=(hx2.block _ ai (fun h=>h)).trans hD;refine⟨_,run_beginRound hl1 (by rw [hrec]),?_⟩;have hlt:w.heap.size+1<V1.heap.size:=by have:=hx2.size;omega
     have hl2:(V1.putObj (w.heap.size+1) (.loop {rec .ready none with state:= .busy})).heap[w.heap.size+1]? =some (.loop {rec .ready none with state:= .busy}):=World.putObj_heap_same hlt;have hD2:(V1.putObj (w.heap.size+1) (.loop {rec .ready none with state:= .busy})).heap[w.heap.size]? =some (.deferred (some [])):=(World.putObj_heap_other ai).trans hD1;have hc2:aE (fun k=>k=w.heap.size+1) V1 (V1.putObj (w.heap.size+1) (.loop {rec .ready none with state:= .busy})):=aE.putObj _ rfl;have fin:∀(jump:Option Code) (V3:World),aE (fun k=>k≠w.heap.size+1∧k≠w.heap.size) (V1.putObj (w.heap.size+1) (.loop {rec .ready none with state:= .busy})) V3→
       (Instr.endRound (w.heap.size+1) jump).run P V3= .ok (.bool jump.isNone) (V3.putObj (w.heap.size+1) (.loop (rec (if jump.isNone then .ready else .done) jump)))∧
       (V3.putObj (w.heap.size+1) (.loop (rec (if jump.isNone then .ready else .done) jump))).heap[w.heap.size+1]? =some (.loop (rec (if jump.isNone then .ready else .done) jump))∧
       (V3.putObj (w.heap.size+1) (.loop (rec (if jump.isNone then .ready else .done) jump))).heap[w.heap.size]? =some (.deferred (some []))∧w.heap.size+2≤(V3.putObj (w.heap.size+1) (.loop (rec (if jump.isNone then .ready else .done) jump))).heap.size:=fun jump V3 hk3=>by
      have hl3:=(hk3.block _ (Array.getElem?_eq_some_iff.1 hl2).1 (fun h=>h.1 rfl)).trans hl2;have hD3:=(hk3.block _ (Array.getElem?_eq_some_iff.1 hD2).1 (fun h=>h.2 rfl)).trans hD2;have hz3:=hk3.size;have:=run_endRound (P:=P) jump hl3;rw [hrec]at this⊢;refine⟨this,World.putObj_heap_same (Array.getElem?_eq_some_iff.1 hl3).1,(World.putObj_heap_other ai).trans hD3,?_⟩;simp only [World.putObj_size]at hz3⊢;have:=hx2.size;omega
     have aA:∀(V3:World) (o:Obj),aE (fun k=>¬pS s i k∧k≠w.heap.size+1∧k≠w.heap.size) (V1.putObj (w.heap.size+1) (.loop {rec .ready none with state:= .busy})) V3→aE (fun k=>¬pS s i k) V (V3.putObj (w.heap.size+1) o):=fun V3 o hk3=>
      ((hx2.aA.trans (hc2.mono (T:=fun k=>¬pS s i k) fun k _ h=>by rw [h];exact hk i) (fun _ _ h=>h)).trans (hk3.mono (T:=fun k=>¬pS s i k) fun _ _ h=>h.1) (fun _ _ h=>h)).trans (aE.putObj (S:=fun k=>¬pS s i k) _ (hk i)) (fun _ _ h=>h)
     refine wpIn_mono (hbody _ hc2 a1 hf1) ?_;rintro e3 a3 V3 ⟨f3,hf3,hp3⟩;cases e3 with
     |normal=>
      obtain⟨hi3,hk3⟩:=hp3;obtain⟨hr,hl4,hD4,hz4⟩:=fin none V3 (hk3.mono fun _ _ h=>⟨h.2.1,h.2.2⟩);refine⟨_,_,hr,true,rfl,.inl ⟨rfl,⟨hI _ _ _ _ hi3 (aE.putObj _ (.inr rfl)),hl4,hD4,hz4,hk⟩,?_⟩⟩;exact aA V3 _ hk3
     |ret=>
      obtain⟨hi3,hk3⟩:=hp3;obtain⟨hr,hl4,hD4,hz4⟩:=fin (some .ret) V3 (hk3.mono fun _ _ h=>⟨h.2.1,h.2.2⟩);exact⟨_,_,hr,false,rfl,.inr ⟨rfl,⟨s,.ret,.ret,hIx _ _ _ _ hi3 (aE.putObj _ (.inr rfl)),hl4,hD4,hz4,.inl ⟨rfl,rfl⟩⟩,aA V3 _ hk3⟩⟩
     |exit id=>
      obtain⟨hi3,hk3⟩:=hp3;obtain⟨hr,hl4,hD4,hz4⟩:=fin (some (.exit id)) V3 (hk3.mono fun _ _ h=>⟨h.2.1,h.2.2⟩);exact⟨_,_,hr,false,rfl,.inr ⟨rfl,⟨s,.exit id,.exit id,hIx _ _ _ _ hi3 (aE.putObj _ (.inr rfl)),hl4,hD4,hz4,.inr (.inl ⟨id,rfl,rfl⟩)⟩,aA V3 _ hk3⟩⟩
     |goto t=>
      obtain⟨hi3,hk3⟩:=hp3;obtain⟨hr,hl4,hD4,hz4⟩:=fin (some (.goto t)) V3 (hk3.mono fun _ _ h=>⟨h.2.1,h.2.2⟩);exact⟨_,_,hr,false,rfl,.inr ⟨rfl,⟨s,.goto t,.goto t,hIx _ _ _ _ hi3 (aE.putObj _ (.inr rfl)),hl4,hD4,hz4,.inr (.inr ⟨t,rfl,rfl⟩)⟩,aA V3 _ hk3⟩⟩
     |panic c=>exact hp3.elim
     |outgrown=>exact hp3.elim
    |exit id=>exact hp.elim
    |goto t=>exact hp.elim
    |ret=>exact hp.elim
    |panic c=>exact hp.elim
    |outgrown=>exact hp.elim)
  have hlist:(Value.func (.yield (w.heap.size+1)) #[] #[]::lb).toArray= #[Value.func (.yield (w.heap.size+1)) #[] #[]]++lb.toArray:=by simp
  rw [hlist]at key;refine key.mono ?_;rintro e V hR;cases e with
  |returned v=>
   obtain⟨hR,hfin⟩:=hR;rcases hR with⟨s,hi,hl,hD,hz,_⟩|⟨s,e,c,hi,hl,hD,hz,hec⟩
   ·refine⟨none,_,hend .ready none V aL hl,_,fr,hdef V ha.defers,?_⟩;exact hdone s _ (hI _ _ _ _ hi (aE.putObj _ (.inr rfl))) ((World.putObj_heap_other ai).trans hD) ⟨V,hfin,aE.putObj _ rfl⟩
   ·refine⟨some c,_,hend .done (some c) V aL hl,?_⟩;have hi':=hIx _ _ _ _ hi (aE.putObj (r:=w.heap.size+1) (.loop (rec .exhausted (some c))) (.inr rfl));have hD':(V.putObj (w.heap.size+1) (.loop (rec .exhausted (some c)))).heap[w.heap.size]? =some (.deferred (some [])):=(World.putObj_heap_other ai).trans hD;have hw:=hleave s e _ hi' hD' ⟨V,hfin,aE.putObj _ rfl⟩ (by rcases hec with⟨h,_⟩|⟨id,h,_⟩|⟨t,h,_⟩<;>simp [h]);rcases hec with⟨rfl,rfl⟩|⟨id,rfl,rfl⟩|⟨t,rfl,rfl⟩
    ·exact wpIn_ret ⟨_,fr,hdef V ha.defers,hw⟩
    ·exact wpIn_exit ⟨_,fr,hdef V ha.defers,hw⟩
    ·exact wpIn_goto ⟨_,fr,hdef V ha.defers,hw⟩
  |panicked ch=>exact hR.elim
  |outgrown=>exact hR.elim
end Go.Fw
