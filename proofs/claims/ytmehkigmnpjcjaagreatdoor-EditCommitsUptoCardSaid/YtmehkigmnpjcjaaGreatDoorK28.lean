/- Parts of a proof: what its last text leans on. No condition. -/
import Derived.Maps.RangeRun
import Derived.Laws.IdiomStrings
import Derived.Test.YtmehkigmnpjcjaaGreatDoorK27
set_option linter.unusedSimpArgs false
set_option linter.unusedVariables false
namespace Go.Fw
open Go.RowKit Go.Fu
def q2(a b:List UInt8)(i:Nat)(f:Nat→Value)(j:Nat):Prop:=∀j',j≤j'→j'≤b.length→f j'= .int .i64 (iY (a.drop i) (b.drop j'):Int)
theorem q2.put{a b:List UInt8}{i j:Nat}{f:Nat→Value}{v:Value}(h:q2 a b i f (j+1))(hv:v= .int .i64 (iY (a.drop i) (b.drop j):Int)):q2 a b i (kT f j v) j:=fun j' h1 h2=>by
 unfold kT;by_cases e:j'=j
 ·rw [if_pos e,e];exact hv
 ·rw [if_neg e];exact h j' ai h2
theorem q2.skip{a b:List UInt8}{i j:Nat}{f:Nat→Value}{v:Value}(h:q2 a b i f (j+1)):q2 a b i (kT f j v) (j+1):=fun j' h1 h2=>by
 unfold kT;rw [if_neg ai];exact h j' h1 h2
end Go.Fw
namespace Go.Proofs.YtmehkigmnpjcjaaGreatDoor
open Go.RowKit Go.Fw Go.Fu Go.Pl Go.Proofs.Tryz
theorem iF:(prog.info? 23).map (·.size)=some 1:=by kernel_rfl
theorem HY:lg prog 3 [.int .i64 0] 8:=by
 have h:(prog.info? 3).map (fun i=>(i.zero,i.size,i.bytes))=some (some (.int .i64 0),1,8):=by kernel_rfl
 obtain⟨i,hi,h⟩:=Option.map_eq_some_iff.1 h;injection h with h1 h2
 injection h2 with h2 h3
 exact⟨i,_,hi,h1,rfl,h2,h3⟩
theorem GS:lg prog 23 [.slice none 0 0] 24:=by
 have h:(prog.info? 23).map (fun i=>(i.zero,i.size,i.bytes))=some (some (.slice none 0 0),1,24):=by kernel_rfl
 obtain⟨i,hi,h⟩:=Option.map_eq_some_iff.1 h;injection h with h1 h2
 injection h2 with h2 h3
 exact⟨i,_,hi,h1,rfl,h2,h3⟩
def gT(w:World)(R lim:Nat)(a b:List UInt8)(g:Nat→Value)(i:Nat):Prop:=∀i',i≤i'→i'≤a.length→∃q,g i'= .slice (some ⟨q,0,none⟩) ((bs b).size+1) ((bs b).size+1)∧q≠R∧q<lim∧aK w q 3 (gK ((bs b).size+1) fun j=>.int .i64 (iY (a.drop i') (b.drop j):Int))
section
variable {w w':World} {R lim:Nat} {a b:List UInt8} {g:Nat→Value} {i:Nat} {S:Nat→Prop}
theorem gT.aA(h:gT w R lim a b g i)(hc:aE S w w')(hs:∀q,q≠R→q<lim→¬S q):gT w' R lim a b g i:=fun i' h1 h2=>by
 obtain⟨q,e,h3,h4,hB⟩:=h i' h1 h2;exact⟨q,e,h3,h4,hB.aA hc (hs q h3 h4)⟩
theorem gT.ext(h:gT w R lim a b g i)(hc:Ext w w'):gT w' R lim a b g i:=h.aA hc fun _ _ _ f=>f
theorem gT.yt{v:Value}(h:gT w R lim a b g (i+1)):gT w R lim a b (kT g i v) (i+1):=fun i' h1 h2=>by
 obtain⟨q,e,hr⟩:=h i' h1 h2;exact⟨q,by unfold kT;rw [if_neg ai];exact e,hr⟩
theorem gT.grow{l2:Nat}(h:gT w R lim a b g i)(hl:lim≤l2):gT w R l2 a b g i:=fun i' h1 h2=>by
 obtain⟨q,e,h3,h4,hB⟩:=h i' h1 h2;exact⟨q,e,h3,by omega,hB⟩
end
set_option maxRecDepth 100000 in
set_option maxHeartbeats 4000000 in
theorem Ck(a b:List UInt8)(w:World)(ha:a.length≤1000)(hb:b.length≤1000):Calls prog 69 #[.string (bs a),.string (bs b)] w (cB fun v w'=>yn w' .i64 v (a.length+1) (b.length+1) (fun i j=>(iY (a.drop i) (b.drop j):Int))∧Ext w w'):=by
 have hsa:=bT a;have hsb:=bT b;refine ar 103 [4] [(0,.string (bs a)),(1,.string (bs b))] func69 rfl rfl rfl aL cz ?_;have hE:Ext w w:=aE.refl;refine CW.sr fun K1 hK1=>WL.a rfl<|WL.nil (hK1 _ _ ?_);clear hK1;refine CW.sr fun K2 hK2=>WL.m rfl<|WL.v (Y.aM underlying9 rfl)<|WL.v (Y.add rfl rfl bB)<|WL.st (St.xK (m:=((bs a).size+1)) underlying155 GS rfl rfl ai ai) aw fun v11 w1 hR1=>?_;obtain⟨R,rfl,hgR,hR,hx1⟩:=hR1;have hz1:=hx1.size;rw [rF]at hR;have hE:=hE.ae hx1;refine WL.a rfl<|WL.nil (hK2 _ _ ?_);clear hK2;refine CW.seq fun K3 hK3=>CW.sr fun K4 hK4=>WL.m rfl<|WL.v (Y.aM underlying9 rfl)<|WL.a rfl<|WL.nil (hK4 _ _ ?_);clear hK4;refine CW.block ?_;refine CW.loop (X:=Nat×(Nat→Value)) (fun x=>[(0,.string (bs a)),(1,.string (bs b)),(5,.slice (some ⟨R,0,none⟩) ((bs a).size+1) ((bs a).size+1)),(6,.int .i64 ((x.1:Int)-1))]) (fun x w0=>x.1≤((bs a).size+1)∧aK w0 R 23 (gK ((bs a).size+1) x.2)∧gT w0 R w0.heap.size a b x.2 x.1∧Ext w w0) (fun x=>x.1) ((bs a).size+1,fun _=>.slice none 0 0) (by repeat (first|exact Fr.le.nil|refine Fr.le.cons rfl ?_|refine Fr.le.cons (by show some (Value.int .i64 _)=some (Value.int .i64 _);congr 2;dsimp only;omega) ?_)) ⟨Nat.le_refl _,hR,(fun i1 h1 h2=>by have h1:(bs a).size+1≤i1:=h1;omega),hE⟩ ?_;intro x w2 hl2;obtain⟨x,g⟩:=x;dsimp only at hl2⊢;obtain⟨hxm,hR,hRows,hE⟩:=hl2;have hltR:=hR.lt;refine CW.seq fun K5 hK5=>CW.sr fun K6 hK6=>WL.m rfl<|WL.v (Y.geq rfl rfl)<|WL.nil (hK6 _ _ ?_);clear hK6;refine bp ?_ ?_<;>intro ht7
 ·refine CW.skip ?_;refine hK5 _ _ ?_;clear hK5;refine CW.seq fun K8 hK8=>?_;refine CW.block<|CW.seq fun K9 hK9=>?_;obtain⟨i,rfl⟩:∃i,x=i+1:=⟨x-1,by omega⟩;rw [show(((i+1:Nat):Int)-1)=(i:Int)by omega];refine CW.region<|WL.m rfl<|WL.m rfl<|WL.m rfl<|WL.v (Y.aM underlying9 rfl)<|WL.v (Y.add rfl rfl bB)<|WL.st (St.xK (m:=((bs b).size+1)) underlying23 HY rfl rfl ai ai) aw fun v23 w3 hR3=>?_;obtain⟨cur,rfl,hgc,hC,hx3⟩:=hR3;have hz3:=hx3.size;rw [rF]at hC;have hE:=hE.ae hx3;have hR:=hR.ext hx3;have hRows:=hRows.ext hx3;have hne:cur≠R:=by omega
  refine WL.v (Y.af underlying155 rfl rfl iF ai)<|WL.lX (i:=i) rfl rfl rfl rfl rfl aG hR ((by rw [cD];omega)) (fun w4 hc4 hB4_=>?_);have hz4:=hc4.size;have hE:=hE.step hc4 (fun k h=>by omega);rw [iq]at hB4_;have hR:=hB4_;have hC:=hC.aA hc4 (fun h=>hne h);have hRows:=(hRows.aA hc4 (fun q h1 _ h=>h1 h)).yt (v:= .slice (some ⟨cur,0,none⟩) ((bs b).size+1) ((bs b).size+1));obtain⟨g2,hg2⟩:∃g2,g2=kT g i (.slice (some ⟨cur,0,none⟩) ((bs b).size+1) ((bs b).size+1)):=⟨_,rfl⟩;rw [←hg2]at hR hRows;have hgi:g2 i= .slice (some ⟨cur,0,none⟩) ((bs b).size+1) ((bs b).size+1):=by rw [hg2];exact if_pos rfl
  refine WL.nil (hK9 _ _ ?_);clear hK9;refine CW.sr fun K10 hK10=>WL.m rfl<|WL.v (Y.aM underlying9 rfl)<|WL.a rfl<|WL.nil (hK10 _ _ ?_);clear hK10;refine CW.block ?_;refine CW.loop (X:=Nat×(Nat→Value)) (fun x=>[(0,.string (bs a)),(1,.string (bs b)),(5,.slice (some ⟨R,0,none⟩) ((bs a).size+1) ((bs a).size+1)),(6,.int .i64 (i:Int)),(7,.int .i64 ((x.1:Int)-1))]) (fun x w0=>x.1≤((bs b).size+1)∧aK w0 R 23 (gK ((bs a).size+1) g2)∧aK w0 cur 3 (gK ((bs b).size+1) x.2)∧gT w0 R w2.heap.size a b g2 (i+1)∧q2 a b i x.2 x.1∧Ext w w0) (fun x=>x.1) ((bs b).size+1,fun _=>.int .i64 0) (by repeat (first|exact Fr.le.nil|refine Fr.le.cons rfl ?_|refine Fr.le.cons (by show some (Value.int .i64 _)=some (Value.int .i64 _);congr 2;dsimp only;omega) ?_)) ⟨Nat.le_refl _,hR,hC,hRows,(fun j1 h1 h2=>by have h1:(bs b).size+1≤j1:=h1;omega),hE⟩ ?_;intro x w5 hl5;obtain⟨y,f⟩:=x;dsimp only at hl5⊢;obtain⟨hym,hR,hC,hRows,hD,hE⟩:=hl5;have hltC:=hC.lt;have hltR:=hR.lt;refine CW.seq fun K11 hK11=>CW.sr fun K12 hK12=>WL.m rfl<|WL.v (Y.geq rfl rfl)<|WL.nil (hK12 _ _ ?_);clear hK12;refine bp ?_ ?_<;>intro ht13
  ·refine CW.skip ?_;refine hK11 _ _ ?_;clear hK11;obtain⟨j,rfl⟩:∃j,y=j+1:=⟨y-1,by omega⟩;rw [show(((j+1:Nat):Int)-1)=(j:Int)by omega];refine CW.bK (X:=Nat→Value) (fun _=>[(0,.string (bs a)),(1,.string (bs b)),(5,.slice (some ⟨R,0,none⟩) ((bs a).size+1) ((bs a).size+1)),(6,.int .i64 (i:Int)),(7,.int .i64 (j:Int))]) (fun f2 w0=>aK w0 R 23 (gK ((bs a).size+1) g2)∧aK w0 cur 3 (gK ((bs b).size+1) f2)∧gT w0 R w2.heap.size a b g2 (i+1)∧q2 a b i f2 j∧Ext w w0) ?_ ?_
   ·refine CW.block<|CW.seq fun K15 hK15=>?_;refine CW.bS 40 ((i:Int)=((bs a).size:Int)∨(j:Int)=((bs b).size:Int)) ?_ ?_
    ·refine CW.region<|WL.m rfl<|WL.m rfl<|WL.v (Y.aM underlying9 rfl)<|WL.v (Y.eql rfl rfl)<|WL.m rfl ?_;refine dO ?_ ?_<;>intro hg35
     ·refine WL.o rfl rfl<|WL.o rfl rfl<|WL.o rfl rfl<|WL.o rfl rfl<|WL.v (Y.pick rfl rfl)<|WL.nil ⟨⟨_,rfl,?_⟩,rfl,Fr.cT⟩;exact aH
     ·refine WL.g rfl rfl (Y.move rfl)<|WL.g rfl rfl (Y.move rfl)<|WL.g rfl rfl (Y.aM underlying9 rfl)<|WL.g rfl rfl (Y.eql rfl rfl)<|WL.v (Y.pick rfl rfl)<|WL.nil ⟨⟨_,rfl,?_⟩,rfl,Fr.cT⟩;exact aH
    refine bp ?_ ?_<;>intro ht16
    ·refine CW.sr fun K17 hK17=>WL.m rfl<|WL.m rfl<|WL.v (Y.af underlying155 rfl rfl iF ai)<|WL.v (Y.ah underlying23 rfl (by have h9:=(hR.ext (aE.refl)).uK (i:=i) ai;rw [hgi]at h9;exact h9.cell0) rfl)<|WL.m rfl<|WL.m rfl<|WL.v (Y.aM underlying9 rfl)<|WL.m rfl<|WL.v (Y.sub rfl rfl bB)<|WL.m rfl<|WL.v (Y.aM underlying9 rfl)<|WL.v (Y.add rfl rfl bB) ?_;refine WL.m rfl<|WL.v (Y.sub rfl rfl bB)<|WL.v (Y.af underlying23 rfl rfl dq ai)<|WL.lX (i:=j) rfl rfl rfl rfl rfl aG hC ((by rw [cD];omega)) (fun w6 hc6 hB6_=>?_);have hz6:=hc6.size;have hE:=hE.step hc6 (fun k h=>by omega);rw [iq]at hB6_;have hR:=hR.aA hc6 (fun h=>hne h.symm);have hRows:=hRows.aA hc6 (fun q _ h2 h=>by omega);refine WL.nil (hK17 _ _ ?_);clear hK17;refine CW.exit ?_;exact⟨_,(by repeat (first|exact Fr.le.nil|refine Fr.le.cons rfl ?_|refine Fr.le.cons (by show some (Value.int .i64 _)=some (Value.int .i64 _);congr 2;dsimp only;omega) ?_)),hR,hB6_,hRows,hD.put (by
      congr 1;have ht:(i:Int)=((bs a).size:Int)∨(j:Int)=((bs b).size:Int):=by assumption
      rcases ht with h|h
      ·rw [List.drop_of_length_le (l:=a) ai,rK,List.length_drop];omega
      ·rw [List.drop_of_length_le (l:=b) ai,pN,List.length_drop];omega),hE⟩
    refine CW.skip ?_;refine hK15 _ _ ?_;clear hK15;refine CW.seq fun K18 hK18=>?_;obtain⟨q1,hq1,hq1R,hq1l,hQ⟩:=hRows (i+1) (Nat.le_refl _) ai;have hc10:=qt (a.drop (i+1)) (b.drop j);have hc01:=qt (a.drop i) (b.drop (j+1));rw [List.length_drop,List.length_drop]at hc10 hc01;refine CW.head 24 aG aG fun w7 hx7=>?_;skip;have hz7:=hx7.size;have hE:=hE.ae hx7;refine HL.val (Y.move rfl) aw<|HL.val (Y.move rfl) aw<|HL.val (Y.af underlying155 rfl rfl iF ai) aw<|HL.val (Y.ah underlying23 rfl (by have h9:=(hR.ext (hx7)).uK (i:=i) ai;rw [hgi]at h9;exact h9.cell0) rfl) aw<|HL.val (Y.move rfl) aw<|HL.val (Y.move rfl) aw<|HL.val (Y.move rfl) aw<|HL.val (Y.add rfl rfl bB) aw<|HL.val (Y.af underlying155 rfl rfl iF ai (i:=i+1)) aw<|HL.val (Y.ah underlying23 rfl (by have h9:=(hR.ext (hx7)).uK (i:=i+1) ai;rw [hq1]at h9;exact h9.cell0) rfl) aw<|HL.val (Y.move rfl) aw<|HL.val (Y.af underlying23 rfl rfl dq ai) aw<|HL.val (Y.ah underlying3 rfl ((hQ.ext hx7).uK (i:=j) ai).cell0 rfl) aw ?_;refine HL.val (Y.move rfl) aw<|HL.val (Y.move rfl) aw<|HL.val (Y.af underlying155 rfl rfl iF ai) aw<|HL.val (Y.ah underlying23 rfl (by have h9:=(hR.ext (hx7)).uK (i:=i) ai;rw [hgi]at h9;exact h9.cell0) rfl) aw<|HL.val (Y.move rfl) aw<|HL.val (Y.add rfl rfl bB) aw<|HL.val (Y.af underlying23 rfl rfl dq ai (i:=j+1)) aw<|HL.val (Y.ah underlying3 rfl (by have h9:=(hC.ext hx7).uK (i:=j+1) ai;rw [hD (j+1) (Nat.le_refl _) ai]at h9;exact h9.cell0) rfl) aw<|HL.val (Y.Iv rfl rfl) aw<|HL.val (Y.add rfl rfl bB) aw<|HL.val (Y.af underlying23 rfl rfl dq ai) aw<|HL.nil<|WL.lX (i:=j) rfl rfl rfl rfl rfl aG (hC.ext hx7) ((by rw [cD];omega)) (fun w8 hc8 hB8_=>?_);have hz8:=hc8.size;have hE:=hE.step hc8 (fun k h=>by omega);rw [iq]at hB8_;have hR:=(hR.ext hx7).aA hc8 (fun h=>hne h.symm);have hRows:=(hRows.ext hx7).aA hc8 (fun q _ h2 h=>by omega);have hQ:=(hQ.ext hx7).aA hc8 cq;have hC:=hB8_;refine WL.nil (hK18 _ _ ?_);clear hK18;refine CW.seq fun K19 hK19=>CW.quiet (fun wq=>Ext w8 wq) aG aG aE.drew<|QL.m rfl<|QL.m rfl<|QL.v (fun wq hq=>Y.cJ (i:=i) (s:=bs a) underlying9 rfl rfl ai)<|QL.m rfl<|QL.m rfl<|QL.v (fun wq hq=>Y.cJ (i:=j) (s:=bs b) underlying9 rfl rfl ai)<|QL.v (fun wq hq=>Y.eql rfl rfl)<|QL.nil fun w9 hx9=>?_;have hz9:=hx9.size;have hE:=hE.ae hx9;refine hK19 _ _ ?_;clear hK19;refine bp ?_ ?_<;>intro ht20
    ·have heq:a[i]'ai=b[j]'ai:=by
      have h9:((a[i]'ai).toNat:Int)=((b[j]'ai).toNat:Int):=by assumption
      exact UInt8.toNat_inj.1 ai
     refine CW.head 15 aG aG fun w10 hx10=>?_;skip;have hz10:=hx10.size;have hE:=hE.ae hx10;refine HL.val (Y.move rfl) aw<|HL.val (Y.move rfl) aw<|HL.val (Y.af underlying155 rfl rfl iF ai) aw<|HL.val (Y.ah underlying23 rfl (by have h9:=(hR.ext (hx9.ae hx10)).uK (i:=i) ai;rw [hgi]at h9;exact h9.cell0) rfl) aw<|HL.val (Y.move rfl) aw<|HL.val (Y.move rfl) aw<|HL.val (Y.move rfl) aw<|HL.val (Y.add rfl rfl bB) aw<|HL.val (Y.af underlying155 rfl rfl iF ai (i:=i+1)) aw<|HL.val (Y.ah underlying23 rfl (by have h9:=(hR.ext (hx9.ae hx10)).uK (i:=i+1) ai;rw [hq1]at h9;exact h9.cell0) rfl) aw<|HL.val (Y.move rfl) aw<|HL.val (Y.add rfl rfl bB) aw<|HL.val (Y.af underlying23 rfl rfl dq ai (i:=j+1)) aw ?_;refine HL.val (Y.ah underlying3 rfl ((hQ.ext (hx9.ae hx10)).uK (i:=j+1) ai).cell0 rfl) aw<|HL.val (Y.af underlying23 rfl rfl dq ai) aw<|HL.nil<|WL.lX (i:=j) rfl rfl rfl rfl rfl aG (hC.ext (hx9.ae hx10)) ((by rw [cD];omega)) (fun w11 hc11 hB11_=>?_);have hz11:=hc11.size;have hE:=hE.step hc11 (fun k h=>by omega);rw [iq]at hB11_;have hR:=(hR.ext (hx9.ae hx10)).aA hc11 (fun h=>hne h.symm);have hRows:=(hRows.ext (hx9.ae hx10)).aA hc11 (fun q _ h2 h=>by omega);refine WL.nil ?_;exact⟨_,(by repeat (first|exact Fr.le.nil|refine Fr.le.cons rfl ?_|refine Fr.le.cons (by show some (Value.int .i64 _)=some (Value.int .i64 _);congr 2;dsimp only;omega) ?_)),hR,hB11_,hRows,hD.skip.put (by rw [drop_cons (l:=a) (i:=i) ai,drop_cons (l:=b) (i:=j) ai,lu,if_pos heq]),hE⟩
    refine CW.skip ?_;have heq:¬a[i]'ai=b[j]'ai:=fun h=>by
     have h9:¬((a[i]'ai).toNat:Int)=((b[j]'ai).toNat:Int):=by assumption
     exact h9 (by rw [h])
    exact⟨_,(by repeat (first|exact Fr.le.nil|refine Fr.le.cons rfl ?_|refine Fr.le.cons (by show some (Value.int .i64 _)=some (Value.int .i64 _);congr 2;dsimp only;omega) ?_)),hR.ext hx9,hC.ext hx9,hRows.ext hx9,hD.put (by
     congr 1;rw [drop_cons (l:=a) (i:=i) ai,drop_cons (l:=b) (i:=j) ai,lu,if_neg heq,←drop_cons (l:=a) (i:=i) ai,←drop_cons (l:=b) (i:=j) ai];omega),hE⟩
   rintro u w12 hj12;obtain⟨hR,hC,hRows,hD,hE⟩:=hj12;refine CW.region<|WL.m rfl<|WL.v (Y.sub rfl rfl bB)<|WL.a rfl<|WL.nil ?_;exact⟨(j,u),(by show j<j+1;omega),(by repeat (first|exact Fr.le.nil|refine Fr.le.cons rfl ?_|refine Fr.le.cons (by show some (Value.int .i64 _)=some (Value.int .i64 _);congr 2;dsimp only;omega) ?_)),(by show j≤(bs b).size+1;omega),hR,hC,hRows,hD,hE⟩
  refine CW.exit ?_;refine hK8 _ _ ?_;clear hK8;refine CW.region<|WL.m rfl<|WL.v (Y.sub rfl rfl bB)<|WL.a rfl<|WL.nil ?_;have hy0:y=0:=by omega
  subst hy0;have hzz:=hltC;refine⟨(i,g2),(by show i<i+1;omega),(by repeat (first|exact Fr.le.nil|refine Fr.le.cons rfl ?_|refine Fr.le.cons (by show some (Value.int .i64 _)=some (Value.int .i64 _);congr 2;dsimp only;omega) ?_)),(by show i≤(bs a).size+1;omega),hR,(fun i1 h1 h2=>?_),hE⟩;by_cases e:i1=i
  ·subst e;refine⟨cur,hgi,hne,hltC,?_⟩;have e2:gK ((bs b).size+1) f=gK ((bs b).size+1) (fun j=>.int .i64 (iY (a.drop i1) (b.drop j):Int)):=List.map_congr_left fun j hj=>hD j (Nat.zero_le _) (by have:=List.mem_range.1 hj;omega);rw [←e2];exact hC
  ·have h1:i≤i1:=h1;exact(hRows.grow (l2:=w5.heap.size) ai) i1 ai h2
 refine CW.exit ?_;refine hK3 _ _ ?_;clear hK3;refine CW.sr fun K21 hK21=>WL.m rfl<|WL.a rfl<|WL.nil (hK21 _ _ ?_);clear hK21;refine CW.ret ⟨_,rfl,?_⟩;have hx0:x=0:=by omega
 subst hx0;refine⟨⟨⟨R,0,none⟩,(bs a).size+1,by rw [hsa],fun i hi=>?_⟩,hE⟩;obtain⟨q,e,_,_,hQ⟩:=hRows i (Nat.zero_le _) ai;have h9:=hR.uK (i:=i) ai;rw [e]at h9;rw [hsb]at h9 hQ;exact⟨⟨q,0,none⟩,b.length+1,h9,fun j hj=>hQ.uK hj⟩
end Go.Proofs.YtmehkigmnpjcjaaGreatDoor
namespace Go.Fw
open Go.RowKit
structure fo{β:Type}(w:World)(r b:Nat)(me:β→MapEntry)(l:List β)(cl:Nat)(vs:List β):Prop where
 map:b7 w b me l cl
 iter:w.heap[r]? =some (.mapIter (some b) cl (vs.map fun e=>(me e).born).toArray cl)
 old:∀e∈l,(me e).born<cl
 born:(l.map fun e=>(me e).born).Nodup
 sub:∀e∈vs,e∈l
 once:vs.Nodup
section
variable {β:Type} {w w':World} {r b:Nat} {me:β→MapEntry} {l:List β} {cl:Nat} {vs:List β} {S:Nat→Prop}
theorem fo.lt(h:fo w r b me l cl vs):r<w.heap.size∧b<w.heap.size:=⟨(Array.getElem?_eq_some_iff.1 h.iter).1,h.map.lt⟩
theorem fo.ne(h:fo w r b me l cl vs):r≠b:=by
 rintro rfl;have:=h.iter.symm.trans h.map;cases this
theorem fo.aA(h:fo w r b me l cl vs)(hc:aE S w w')(hr:¬S r)(hb:¬S b):fo w' r b me l cl vs:=
 ⟨h.map.aA hc hb,(hc.block r h.lt.1 hr).trans h.iter,h.old,h.born,h.sub,h.once⟩
theorem fo.ext(h:fo w r b me l cl vs)(hc:Ext w w'):fo w' r b me l cl vs:=h.aA hc (fun f=>f) (fun f=>f)
theorem fo.inj(h:fo w r b me l cl vs){x y:β}(hx:x∈l)(hy:y∈l)(he:(me x).born=(me y).born):x=y:=by
 obtain⟨i,hi⟩:=List.mem_iff_getElem?.1 hx;obtain⟨j,hj⟩:=List.mem_iff_getElem?.1 hy;have h1:(l.map fun e=>(me e).born)[i]? =some (me x).born:=by simp [hi]
 have h2:(l.map fun e=>(me e).born)[j]? =some (me x).born:=by simp [hj,he]
 have hlt:=(List.getElem?_eq_some_iff.1 h1).1;have e:=(List.getElem?_inj hlt h.born).1 (h1.trans h2.symm);subst e;exact Option.some.inj (hi.symm.trans hj)
theorem fo.nodup(h:fo w r b me l cl vs):l.Nodup:=by
 have:=h.born;rw [List.Nodup,List.pairwise_map]at this;exact this.imp fun hne e=>hne (by rw [e])
theorem fo.perm(h:fo w r b me l cl vs)(ha:∀e∈l,e∈vs):vs.Perm l:=(List.perm_ext_iff_of_nodup h.once h.nodup).2 fun e=>⟨h.sub e,ha e⟩
theorem fo.G8(h:fo w r b me l cl vs):vs.length≤l.length:=by
 obtain⟨l',hp,hs⟩:∃l',vs.Perm l'∧l'.Sublist l:=by
  refine⟨l.filter (fun e=>@decide (e∈vs) (Classical.propDecidable _)),(List.perm_ext_iff_of_nodup h.once (h.nodup.sublist List.filter_sublist)).2 fun e=>?_,List.filter_sublist⟩;simp only [List.mem_filter,decide_eq_true_eq];exact⟨fun x=>⟨h.sub e x,x⟩,fun x=>x.2⟩
 rw [hp.length_eq];exact hs.length_le
variable {P:Program} {n:NN} {fr:Fr} {ty:TypeId}
theorem St.range{x:Operand}{t k e:TypeId}(hT:P.underlying t=some (.map k e))(hx:ev fr x=some (.map (some b)))(hm:b7 w b me l cl)(ho:∀e∈l,(me e).born<cl)(hn:(l.map fun e=>(me e).born).Nodup):
  St P n fr (.range t x) ty w (fun v w'=>∃r,v= .pointer (some ⟨r,0,none⟩)∧w.heap.size≤r∧fo w' r b me l cl []∧Ext w w'):=fun a o' hop hty ha=>by
 refine⟨_,_,?_,w.heap.size,rfl,Nat.le_refl _,⟨hm.ext (aE.alloc _),heap_alloc_new w _,ho,hn,(fun e h=>by simp at h),List.nodup_nil⟩,aE.alloc _⟩;simp only [execOp,hop,ha.ev hx,Sem.run_bind];rw [run_range_map w t k e b _ cl hT hm];rfl
theorem St.next{x:Operand}(hx:ev fr x=some (.pointer (some ⟨r,0,none⟩)))(hg:fo w r b me l cl vs):
  St P n fr (.next x false) ty w (fun v w'=>∃bt rest,v= .tuple (.bool bt::rest).toArray∧aE (·=r) w w'∧
   ((bt=true∧∃e,e∈l∧e∉vs∧fo w' r b me l cl (vs++[e]))∨(bt=false∧(∀e∈l,e∈vs)∧fo w' r b me l cl vs))):=fun a o' hop hty ha=>by
 have hold:∀y∈(l.map me).toArray.toList,y.born<cl:=by
  intro y hy;simp only [List.mem_map]at hy;obtain⟨e,he,rfl⟩:=hy;exact hg.old e he
 rcases run_next_at (P:=P) w o'.type r b cl cl _ _ cl hg.iter hg.map hold (Nat.le_refl _)with⟨h0,hrun⟩|⟨e,he,w1,hw1,hrun⟩
 ·refine⟨_,w,?_,false,[],rfl,aE.refl,.inr ⟨rfl,fun e he=>?_,hg⟩⟩
  ·simp only [execOp,hop,ha.ev hx,Sem.run_bind];rw [hrun];rfl
  ·have:=all_seen _ _ h0 (me e) (by simp only [List.mem_map];exact⟨e,he,rfl⟩);simp only [List.contains_toArray,List.contains_eq_mem,List.mem_map,decide_eq_true_eq]at this;obtain⟨y,hy,hyb⟩:=this;have:=hg.inj (hg.sub y hy) he hyb;exact this▸hy
 ·obtain⟨hem,hes⟩:=mem_left he;simp only [List.mem_map]at hem;obtain⟨x0,hx0,rfl⟩:=hem;have hnv:x0∉vs:=fun h=>by
   simp only [List.contains_toArray,List.contains_eq_mem,List.mem_map,decide_eq_false_iff_not]at hes;exact hes ⟨x0,h,rfl⟩
  have hx1:Ext w w1:=by rcases hw1 with rfl|rfl;exact aE.refl;exact aE.drew
  have hz1:r<w1.heap.size:=Nat.lt_of_lt_of_le hg.lt.1 hx1.size;refine⟨.tuple #[.bool true,(me x0).key,(me x0).val],{w1 with heap:=w1.heap.setIfInBounds r (.mapIter (some b) cl ((vs.map fun e=>(me e).born).toArray.push (me x0).born) cl)},?_,true,[(me x0).key,(me x0).val],rfl,hx1.aA.trans (T:=fun k=>k=r) (lZ rfl) (fun _ _ h=>h),.inl ⟨rfl,x0,hx0,hnv,?_⟩⟩
  ·simp only [execOp,hop,ha.ev hx,Sem.run_bind];rw [hrun];rfl
  ·refine⟨(hg.map.ext hx1).aA (lZ (S:=fun k=>k=r) rfl) (fun h=>hg.ne (Eq.symm h)),?_,hg.old,hg.born,fun e he=>?_,?_⟩
   ·have:=nM (w:=w1) (o:= .mapIter (some b) cl ((vs.map fun e=>(me e).born).toArray.push (me x0).born) cl) hz1;rw [List.map_append,List.map_cons,List.map_nil,←List.push_toArray];exact this
   ·rcases List.mem_append.1 he with h|h
    ·exact hg.sub e h
    ·simp at h;subst h;exact hx0
   ·rw [List.nodup_append];refine⟨hg.once,by simp,fun a ha c hc=>?_⟩;simp at hc;subst hc;exact fun e=>hnv (e▸ha)
theorem Y.entry{x:Operand}{e:β}(hx:ev fr x=some (.pointer (some ⟨r,0,none⟩)))(hg:fo w r b me l cl (vs++[e])):Yw P n fr (.entry x) ty w (.tuple #[(me e).key,(me e).val]) w:=fun a o' hop _ ha=>by
 have hit:=hg.iter;rw [List.map_append,List.map_cons,List.map_nil,←List.push_toArray]at hit;have:=run_entry_at (P:=P) w r b cl _ _ cl (me e) hit hg.map (by simp only [List.mem_map];exact⟨e,hg.sub e aL,rfl⟩) (by
  have:=hg.born;simpa [List.map_map,Function.comp_def]using this)
 simp only [execOp,hop,ha.ev hx,Sem.run_bind];rw [this];rfl
theorem Y.Ei{x:Operand}{v:Value}{vs:List Value}(hx:ev fr x=some (.tuple (v::vs).toArray)):Yw P n fr (.extract x 0) ty w v w:=Y.extract hx aL
end
end Go.Fw
namespace Go.Fw
open Go.RowKit
theorem RS.kp{P:Program}{ops:Array Oper}{S:World→Prop}{n:NN}{Φ:Exit→Fr→World→Prop}{fr:Fr}{w:World}{fuel:Nat}{listed:Array Bool}{i d t:Nat}{f:FuncId}{args:List Operand}{tys:Array TypeId}{ty:TypeId}{pos:String}{aft:Array Edge}{vs cap:List Value}{fn:Func}{R:Value→World→Prop}
  (hi:ops[i]? =some ⟨some d,.call {callee:= .value (.tmp t),args:=args.toArray,argTypes:=tys},ty,pos,aft,none⟩) (ht:fr.get t=some (.func (.func f) #[] cap.toArray))
  (hf:P.funcs[f]? =some fn) (hb:fn.body.isNone=false) (hn:(fn.name== "runtime.NumGoroutine")=false)
  (he:pY fr args=some vs) (hC:Calls P f (vs++cap).toArray w (cB R)) (hd:d<n.1)
  (h:∀v w',R v w'→S w'∧RH P ops S n Φ fuel (listed.setIfInBounds i true) ((d,v)::fr) w'):RS P ops S n Φ fuel listed i fr w:=fun a ha=>by
 have hrun:(execOp a.eval ⟨some d,.call {callee:= .value (.tmp t),args:=args.toArray,argTypes:=tys},ty,pos,aft,none⟩).run P w= .ok (.enter f (vs++cap).toArray) w:=by
  have h1:=ha.pY he;have h2:a.eval (.tmp t)= .func (.func f) #[] cap.toArray:=ha.ev (x:= .tmp t) ht;simp [execOp,resolve,invoke,Deferred.ofValue,h2,h1,dT hf hb hn]
 unfold wpOp;rw [hi];simp only [Region.wanted,if_true];refine .inl ?_;unfold Oper.wp;rw [hrun];refine hC.mono fun e w' hr=>?_;cases e with
 |returned v=>obtain⟨h1,h2⟩:=h v w' hr;exact⟨h1,h2 _ (ha.put hd v)⟩
 |panicked ch=>exact hr.elim
 |outgrown=>exact hr.elim
end Go.Fw
namespace Go.Proofs.YtmehkigmnpjcjaaGreatDoor
open Go.RowKit Go.Fw Go.Fu Go.Pl Go.Proofs.Tryz
theorem E6{e:List El}(h:Down e):∀i,i<e.length→∀j∈aY e i,(aY e j).Sublist (aY e i):=
 gJ h fun i x hx ih j hj=>by
  have hd:=h i x hx;have hw:=dG h hx;have fl:∀(l:List Nat) (c:Nat),c∈l→(aY e c).Sublist (l.flatMap (aY e)):=fun l c hc=>by
   induction l with
   |nil=>cases hc
   |cons a r ihl=>
    rw [List.flatMap_cons];rcases List.mem_cons.1 hc with rfl|hc
    ·exact List.sublist_append_left _ _
    ·exact(ihl hc).trans (List.sublist_append_right _ _)
  have hj':=hj;rw [hw,List.mem_append,List.mem_cons,List.mem_flatMap,List.mem_flatMap]at hj';rcases hj' with⟨c,hc,hj⟩|rfl|⟨c,hc,hj⟩
  ·rw [hw];exact((ih c (.inl hc) (hd c (.inl hc)).2 j hj).trans (fl _ c hc)).trans (List.sublist_append_left _ _)
  ·exact List.Sublist.refl _
  ·rw [hw];exact(((ih c (.inr hc) (hd c (.inr hc)).2 j hj).trans (fl _ c hc)).trans (List.sublist_cons_self _ _)).trans (List.sublist_append_right _ _)
theorem nS{e:List El}(hG:Fu.Good e)(i:Nat)(hi:i<e.length):(aY e i).Nodup:=List.Nodup.sublist (E6 hG.down 0 hG.pos i (hG.mem.2 hi)) hG.nodup
abbrev JB:TypeId:=48
abbrev JC:TypeId:=136
def gD(D:List (Nat×Nn))(c:Nat):Nat:=((D.find? fun p=>decide (p.1=c)).map fun p=>p.2.g).getD 0
theorem yD{D X:List (Nat×Nn)}{c:Nat}(h:∃p∈D,p.1=c):gD (D++X) c=gD D c:=by
 have hs:(D.find? fun p=>decide (p.1=c)).isSome=true:=by
  obtain⟨p,hp,hc⟩:=h;exact List.find?_isSome.2 ⟨p,hp,decide_eq_true hc⟩
 obtain⟨q,hq⟩:=Option.isSome_iff_exists.1 hs;rw [gD,gD,List.find?_append,hq];rfl
theorem zd{D:List (Nat×Nn)}(hn:(D.map (·.1)).Nodup){p:Nat×Nn}(hp:p∈D):gD D p.1=p.2.g:=by
 induction D with
 |nil=>cases hp
 |cons q r ih=>
  have hn':=List.nodup_cons.1 hn;unfold gD;rw [List.find?_cons];by_cases h:q.1=p.1
  ·rcases List.mem_cons.1 hp with rfl|hp
   ·simp
   ·exact absurd (List.mem_map.2 ⟨p,hp,h.symm⟩) hn'.1
  ·rw [decide_eq_false h];rcases List.mem_cons.1 hp with rfl|hp
   ·exact absurd rfl h
   ·exact ih hn'.2 hp
def kV(D:List (Nat×Nn)):List BE:=((D.filter fun p=>decide (p.1≠0)).zipIdx).map fun q=>⟨q.1.2.el.name,q.1.2.g,q.2⟩
theorem mV{D:List (Nat×Nn)}:(kV D).length=(D.filter fun p=>decide (p.1≠0)).length:=by simp [kV]
theorem CR{D:List (Nat×Nn)}{y:Nn}:kV (D++[(0,y)])=kV D:=by simp [kV]
theorem EK{D:List (Nat×Nn)}{i:Nat}{y:Nn}(h:i≠0):kV (D++[(i,y)])=kV D++[⟨y.el.name,y.g,(kV D).length⟩]:=by
 rw [mV];simp [kV,h,List.zipIdx_append]
theorem xu{D:List (Nat×Nn)}{e:BE}(h:e∈kV D):∃p∈D,p.1≠0∧p.2.el.name=e.k∧p.2.g=e.g:=by
 obtain⟨q,hq,rfl⟩:=List.mem_map.1 h;have:=(List.mem_zipIdx hq).2.2;have hm:q.1∈D.filter fun p=>decide (p.1≠0):=by rw [this];exact List.getElem_mem _
 obtain⟨h1,h2⟩:=List.mem_filter.1 hm;exact⟨q.1,h1,by simpa using h2,rfl,rfl⟩
theorem Fq{D:List (Nat×Nn)}{p:Nat×Nn}(hp:p∈D)(h0:p.1≠0):∃e∈kV D,e.k=p.2.el.name:=by
 have hm:p∈D.filter fun p=>decide (p.1≠0):=List.mem_filter.2 ⟨hp,by simpa using h0⟩;obtain⟨i,hi⟩:=List.mem_iff_getElem?.1 hm;exact⟨⟨p.2.el.name,p.2.g,i⟩,List.mem_map.2 ⟨(p,i),List.mem_of_getElem? (i:=i) (by rw [List.getElem?_zipIdx,hi];simp),rfl⟩,rfl⟩
theorem uJ{D:List (Nat×Nn)}:(kV D).map BE.born=List.range (kV D).length:=by
 have:∀(l:List (Nat×Nn)) (k:Nat),((l.zipIdx k).map fun q:(Nat×Nn)×Nat=>(⟨q.1.2.el.name,q.1.2.g,q.2⟩:BE)).map BE.born=List.range' k l.length:=by
  intro l;induction l with
  |nil=>intro k;rfl
  |cons a r ih=>intro k;rw [List.zipIdx_cons,List.map_cons,List.map_cons,ih,List.length_cons,List.range'_succ]
 rw [mV,List.range_eq_range'];exact this _ 0
structure jG(w0 w:World)(ns:List Nn)(g gf gt gc g2 rb2 gr ra2 n2:Nat)(D:List (Nat×Nn)):Prop where
 ext:Ext w0 w
 from_:aK w gf JC [.func (.func 54) #[] #[.pointer (some ⟨gf,0,none⟩),.pointer (some ⟨gt,0,none⟩),.pointer (some ⟨gc,0,none⟩)]]
 tbox:aK w gt JB [.pointer (some ⟨g,0,none⟩)]
 cbox:aK w gc JB [.pointer (some ⟨g2,0,none⟩)]
 tree:aK w g2 TF (jA gr rb2 ra2 n2)
 map:b7 w rb2 BE.me (kV D) (kV D).length
 node:∀p∈D,∃z,ns[p.1]? =some z∧p.2.el=z.el∧aK w p.2.g TN (bu p.2.el p.2.lv p.2.rv)
 kids:∀p∈D,∀s,Own w TP 1 (p.2.sv s) (b9 ((side p.2.el s).map (gD D)))
 has:∀p∈D,∀c,c∈p.2.el.left∨c∈p.2.el.right→∃q∈D,q.1=c
 nodup:(D.map (·.1)).Nodup
 inj:∀p∈D,∀q∈D,p.2.g=q.2.g→p.1=q.1
 sep:∀p∈D,∀q∈D,∀(s t:Bool) (k:Nat),(p.2.sv s).ownBlock=some k→(q.2.sv t).ownBlock=some k→p.1=q.1∧s=t
 low:w0.heap.size≤rb2
 new:∀p∈D,w0.heap.size≤p.2.g∧∀(s:Bool) (k:Nat),(p.2.sv s).ownBlock=some k→w0.heap.size≤k
section
variable {w0 w w':World} {ns:List Nn} {g gf gt gc g2 rb2 gr ra2 n2:Nat} {D:List (Nat×Nn)} {S:Nat→Prop}
theorem bW{k:Nat}{c1 c2:Array Value}{t1 t2:TypeId}{f1 f2:Nat×Nat}(h1:w.heap[k]? =some (.cells c1 t1 f1))(h2:w.heap[k]? =some (.cells c2 t2 f2)):t1=t2:=by
 rw [h1]at h2;injection h2 with h2;injection h2
theorem ja{k:Nat}{c1:Array Value}{t1:TypeId}{f1:Nat×Nat}{β:Type}{me:β→MapEntry}{l:List β}{cl:Nat}(h1:w.heap[k]? =some (.cells c1 t1 f1))(h2:b7 w k me l cl):False:=by
 unfold b7 at h2;rw [h1]at h2;cases h2
theorem jG.aA(h:jG w0 w ns g gf gt gc g2 rb2 gr ra2 n2 D)(hc:aE S w w')(hS:∀k,S k→w0.heap.size≤k)(hs:∀k,S k→(∀p∈D,p.2.g≠k∧∀s,(p.2.sv s).ownBlock≠some k)∧k≠gf∧k≠gt∧k≠gc∧k≠g2∧k≠rb2):jG w0 w' ns g gf gt gc g2 rb2 gr ra2 n2 D where
 ext:=h.ext.step hc hS
 from_:=h.from_.aA hc fun hk=>(hs _ hk).2.1 rfl
 tbox:=h.tbox.aA hc fun hk=>(hs _ hk).2.2.1 rfl
 cbox:=h.cbox.aA hc fun hk=>(hs _ hk).2.2.2.1 rfl
 tree:=h.tree.aA hc fun hk=>(hs _ hk).2.2.2.2.1 rfl
 map:=h.map.aA hc fun hk=>(hs _ hk).2.2.2.2.2 rfl
 node p hp:=by obtain⟨z,h1,h2,h3⟩:=h.node p hp;exact⟨z,h1,h2,h3.aA hc fun hk=>((hs _ hk).1 p hp).1 rfl⟩
 kids p hp s:=(h.kids p hp s).aA hc fun k hk hSk=>((hs _ hSk).1 p hp).2 s hk
 has:=h.has
 nodup:=h.nodup
 inj:=h.inj
 sep:=h.sep
 low:=h.low
 new:=h.new
theorem jG.then(h:jG w0 w ns g gf gt gc g2 rb2 gr ra2 n2 D)(hx:Ext w w'):jG w0 w' ns g gf gt gc g2 rb2 gr ra2 n2 D:=h.aA hx (fun _ f=>f.elim) (fun _ f=>f.elim)
theorem jG.Au(h:jG w0 w ns g gf gt gc g2 rb2 gr ra2 n2 D){k:Nat}{cs:List Value}(hb:aK w k TN cs)(hn:∀p∈D,p.2.g≠k):(∀p∈D,p.2.g≠k∧∀s,(p.2.sv s).ownBlock≠some k)∧k≠gf∧k≠gt∧k≠gc∧k≠g2∧k≠rb2:=by
 refine⟨fun p hp=>⟨hn p hp,fun s hk=>?_⟩,?_,?_,?_,?_,?_⟩
 ·obtain⟨_,_,h1⟩:=(h.kids p hp s).kind hk;exact absurd (bW h1 hb) aw
 ·rintro rfl;exact absurd (bW hb h.from_) aw
 ·rintro rfl;exact absurd (bW hb h.tbox) aw
 ·rintro rfl;exact absurd (bW hb h.cbox) aw
 ·rintro rfl;exact absurd (bW hb h.tree) aw
 ·rintro rfl;exact ja hb h.map
theorem jG.DE(h:jG w0 w ns g gf gt gc g2 rb2 gr ra2 n2 D){u:Value}{us:List Nat}(hO:Own w TP 1 u (b9 us))(hn:∀k,u.ownBlock=some k→∀p∈D,∀s,(p.2.sv s).ownBlock≠some k){k:Nat}(hk:u.ownBlock=some k):(∀p∈D,p.2.g≠k∧∀s,(p.2.sv s).ownBlock≠some k)∧k≠gf∧k≠gt∧k≠gc∧k≠g2∧k≠rb2:=by
 obtain⟨_,_,hb⟩:=hO.kind hk;refine⟨fun p hp=>⟨?_,hn k hk p hp⟩,?_,?_,?_,?_,?_⟩
 ·rintro rfl;obtain⟨_,_,_,h3⟩:=h.node p hp;exact absurd (bW hb h3) aw
 ·rintro rfl;exact absurd (bW hb h.from_) aw
 ·rintro rfl;exact absurd (bW hb h.tbox) aw
 ·rintro rfl;exact absurd (bW hb h.cbox) aw
 ·rintro rfl;exact absurd (bW hb h.tree) aw
 ·rintro rfl;exact ja hb h.map
theorem jG.lt(h:jG w0 w ns g gf gt gc g2 rb2 gr ra2 n2 D){p:Nat×Nn}(hp:p∈D):p.2.g<w.heap.size∧∀(s:Bool) (k:Nat),(p.2.sv s).ownBlock=some k→k<w.heap.size:=by
 obtain⟨_,_,_,h3⟩:=h.node p hp;exact⟨h3.lt,fun s k hk=>(h.kids p hp s).lt k hk⟩
end
structure fm(w0 w wj:World)(ns:List Nn)(g gf gt gc g2 rb2 gr ra2 n2:Nat)(D Dk:List (Nat×Nn))(el:El)(gm:Nat)(u v:Value)(us vs done:List Nat):Prop where
 cp:jG w0 wj ns g gf gt gc g2 rb2 gr ra2 n2 Dk
 pre:∃X,Dk=D++X∧∀p∈X,w.heap.size≤p.2.g∧∀(s:Bool) (k:Nat),(p.2.sv s).ownBlock=some k→w.heap.size≤k
 cover:∀j,(∃p∈Dk,p.1=j)↔(∃p∈D,p.1=j)∨j∈done
 bY:aK wj gm TN (bu el u v)
 low:w.heap.size≤gm
 ne:∀p∈Dk,p.2.g≠gm
 aA:aE (fun k=>k=rb2) w wj
 own:Own wj TP 1 u (b9 us)∧Own wj TP 1 v (b9 vs)
 fresh:∀k,u.ownBlock=some k∨v.ownBlock=some k→w.heap.size≤k∧∀p∈Dk,∀s,(p.2.sv s).ownBlock≠some k
 uv:∀k,u.ownBlock=some k→v.ownBlock≠some k
 base:w0.heap.size≤w.heap.size
def Hy(w0:World)(ns:List Nn)(g gf gt gc g2 rb2 gr ra2 n2 c:Nat):Prop:=∀(w:World) (D:List (Nat×Nn)),jG w0 w ns g gf gt gc g2 rb2 gr ra2 n2 D→(∀p∈D,p.1∉aY (Fw.aR ns) c)→
 Calls prog 54 #[.pointer (some ⟨fh ns c,0,none⟩),.pointer (some ⟨gf,0,none⟩),.pointer (some ⟨gt,0,none⟩),.pointer (some ⟨gc,0,none⟩)] w (cB fun r w'=>∃X y,r= .pointer (some ⟨y.g,0,none⟩)∧jG w0 w' ns g gf gt gc g2 rb2 gr ra2 n2 (D++X)∧(c,y)∈X∧(∀j,(∃p∈X,p.1=j)↔j∈aY (Fw.aR ns) c)∧
  (∀p∈X,w.heap.size≤p.2.g∧∀(s:Bool) (k:Nat),(p.2.sv s).ownBlock=some k→w.heap.size≤k)∧aE (fun k=>k=rb2) w w')
section
variable {w0 w wj w':World} {ns:List Nn} {g gf gt gc g2 rb2 gr ra2 n2:Nat} {D Dk X:List (Nat×Nn)} {el:El} {gm:Nat} {u v:Value} {us vs done:List Nat}
theorem fm.then(h:fm w0 w wj ns g gf gt gc g2 rb2 gr ra2 n2 D Dk el gm u v us vs done)(hx:Ext wj w'):fm w0 w w' ns g gf gt gc g2 rb2 gr ra2 n2 D Dk el gm u v us vs done:=
 ⟨h.cp.then hx,h.pre,h.cover,h.bY.ext hx,h.low,h.ne,h.aA.ae hx,⟨h.own.1.ext hx,h.own.2.ext hx⟩,h.fresh,h.uv,h.base⟩
theorem fm.q0(h:fm w0 w wj ns g gf gt gc g2 rb2 gr ra2 n2 D Dk el gm u v us vs done):gm≠rb2∧∀k,u.ownBlock=some k∨v.ownBlock=some k→k≠rb2:=by
 refine⟨?_,fun k hk=>?_⟩
 ·rintro rfl;exact ja h.bY h.cp.map
 ·rintro rfl;rcases hk with hk|hk
  ·obtain⟨_,_,hb⟩:=h.own.1.kind hk;exact ja hb h.cp.map
  ·obtain⟨_,_,hb⟩:=h.own.2.kind hk;exact ja hb h.cp.map
theorem fm.call(h:fm w0 w wj ns g gf gt gc g2 rb2 gr ra2 n2 D Dk el gm u v us vs done){l:List Nat}(hX:jG w0 w' ns g gf gt gc g2 rb2 gr ra2 n2 (Dk++X))(hcov:∀j,(∃p∈X,p.1=j)↔j∈l)
  (hnew:∀p∈X,wj.heap.size≤p.2.g∧∀(s:Bool) (k:Nat),(p.2.sv s).ownBlock=some k→wj.heap.size≤k) (hc:aE (fun k=>k=rb2) wj w'):fm w0 w w' ns g gf gt gc g2 rb2 gr ra2 n2 D (Dk++X) el gm u v us vs (done++l) where
 cp:=hX
 pre:=by
  obtain⟨Y,rfl,hY⟩:=h.pre;have hsz:=h.aA.size;refine⟨Y++X,by rw [List.append_assoc],fun p hp=>?_⟩;rcases List.mem_append.1 hp with hp|hp
  ·exact hY p hp
  ·have:=hnew p hp;exact⟨by omega,fun s k hk=>by have:=this.2 s k hk;omega⟩
 cover j:=by
  constructor
  ·rintro⟨p,hp,hj⟩;rcases List.mem_append.1 hp with hp|hp
   ·rcases(h.cover j).1 ⟨p,hp,hj⟩with hh|hh
    ·exact .inl hh
    ·exact .inr (List.mem_append_left _ hh)
   ·exact .inr (List.mem_append_right _ ((hcov j).1 ⟨p,hp,hj⟩))
  ·rintro(hh|hh)
   ·obtain⟨p,hp,hj⟩:=(h.cover j).2 (.inl hh);exact⟨p,List.mem_append_left _ hp,hj⟩
   ·rcases List.mem_append.1 hh with hh|hh
    ·obtain⟨p,hp,hj⟩:=(h.cover j).2 (.inr hh);exact⟨p,List.mem_append_left _ hp,hj⟩
    ·obtain⟨p,hp,hj⟩:=(hcov j).2 hh;exact⟨p,List.mem_append_right _ hp,hj⟩
 bY:=h.bY.aA hc h.q0.1
 low:=h.low
 ne p hp:=by
  rcases List.mem_append.1 hp with hp|hp
  ·exact h.ne p hp
  ·have:=(hnew p hp).1;have:=h.bY.lt;omega
 aA:=h.aA.trans hc fun k _ hk=>hk
 own:=⟨h.own.1.aA hc fun k hk=>h.q0.2 k (.inl hk),h.own.2.aA hc fun k hk=>h.q0.2 k (.inr hk)⟩
 fresh k hk:=by
  refine⟨(h.fresh k hk).1,fun p hp s hp2=>?_⟩;rcases List.mem_append.1 hp with hp|hp
  ·exact(h.fresh k hk).2 p hp s hp2
  ·have:=(hnew p hp).2 s k hp2;rcases hk with hk|hk
   ·have:=h.own.1.lt k hk;omega
   ·have:=h.own.2.lt k hk;omega
 uv:=h.uv
 base:=h.base
theorem fm.HJ(h:fm w0 w wj ns g gf gt gc g2 rb2 gr ra2 n2 D Dk el gm u v us vs done){w1 w2:World}{x':Value}{x:Nat}(hc1:aE (fun k=>u.ownBlock=some k) wj w1)(hO:Own w1 TP 1 x' (b9 (us++[x])))(hf:x'.ownBlock=u.ownBlock∨∀k,x'.ownBlock=some k→wj.heap.size≤k)(hc2:aE (fun k=>k=gm) w1 w2)(hB:aK w2 gm TN (bu el x' v)):fm w0 w w2 ns g gf gt gc g2 rb2 gr ra2 n2 D Dk el gm x' v (us++[x]) vs done:=by
 have hzw:=h.aA.size;have hz1:=hc1.size;have hbase:=h.base;have hgl:=h.bY.lt;have hlow:=h.low;have hdk:∀p∈Dk,∀(s:Bool) (k:Nat),(p.2.sv s).ownBlock=some k→k<wj.heap.size:=fun p hp s k hk=>(h.cp.lt hp).2 s k hk;have hkU:∀k,u.ownBlock=some k→k≠gm:=fun k hk e=>by
  subst e;obtain⟨_,_,hb⟩:=h.own.1.kind hk;exact absurd (bW hb h.bY) aw
 have hkV:∀k,v.ownBlock=some k→k≠gm:=fun k hk e=>by
  subst e;obtain⟨_,_,hb⟩:=h.own.2.kind hk;exact absurd (bW hb h.bY) aw
 have hltV:∀k,v.ownBlock=some k→k<wj.heap.size:=fun k hk=>h.own.2.lt k hk;have hrU:∀k,u.ownBlock=some k→k≠rb2:=fun k hk=>h.q0.2 k (.inl hk);have hgr:=h.q0.1;have hcp1:=h.cp.aA hc1 (fun k hk=>by have:=(h.fresh k (.inl hk)).1;omega) (fun k hk=>h.cp.DE h.own.1 (fun k hk=>(h.fresh k (.inl hk)).2) hk);have hB1:aK w1 gm TN (bu el u v):=h.bY.aA hc1 fun hk=>hkU gm hk rfl;have hcp2:=hcp1.aA hc2 (fun k hk=>by have hk:k=gm:=hk;omega) (fun k hk=>by have hk:k=gm:=hk;subst hk;exact hcp1.Au hB1 h.ne);have hxne:∀k,x'.ownBlock=some k→k≠gm:=fun k hk=>by
  rcases hf with e|e
  ·rw [e]at hk;exact hkU k hk
  ·have:=e k hk;omega
 have hxfr:∀k,x'.ownBlock=some k→w.heap.size≤k∧∀p∈Dk,∀s,(p.2.sv s).ownBlock≠some k:=fun k hk=>by
  rcases hf with e|e
  ·rw [e]at hk;exact h.fresh k (.inl hk)
  ·have h1:=e k hk;exact⟨by omega,fun p hp s hp2=>by have:=hdk p hp s k hp2;omega⟩
 have hxV:∀k,x'.ownBlock=some k→v.ownBlock≠some k:=fun k hk hv=>by
  rcases hf with e|e
  ·rw [e]at hk;exact h.uv k hk hv
  ·have:=e k hk;have:=hltV k hv;omega
 have hVfr:∀k,v.ownBlock=some k→w.heap.size≤k∧∀p∈Dk,∀s,(p.2.sv s).ownBlock≠some k:=fun k hk=>h.fresh k (.inr hk);have hxO:Own w2 TP 1 x' (b9 (us++[x])):=hO.aA hc2 fun k hk e=>hxne k hk e;have hVO:Own w2 TP 1 v (b9 vs):=(h.own.2.aA hc1 fun k hk hu=>h.uv k hu hk).aA hc2 fun k hk e=>hkV k hk e;exact⟨hcp2,h.pre,h.cover,hB,h.low,h.ne,aE.trans (aE.trans (h.aA.mono (T:=fun k=>k=rb2∨w.heap.size≤k) fun k _ hk=>.inl hk) hc1 fun k _ hk=>.inr (h.fresh k (.inl hk)).1) hc2 (fun k _ hk=>.inr (by have hk:k=gm:=hk;omega))|>.mono (fun k hk hh=>by
   rcases hh with hh|hh
   ·exact hh
   ·omega),⟨hxO,hVO⟩,fun k hk=>by
   rcases hk with hk|hk
   ·exact hxfr k hk
   ·exact hVfr k hk,hxV,h.base⟩
theorem fm.mq(h:fm w0 w wj ns g gf gt gc g2 rb2 gr ra2 n2 D Dk el gm u v us vs done){w1 w2:World}{x':Value}{x:Nat}(hc1:aE (fun k=>v.ownBlock=some k) wj w1)(hO:Own w1 TP 1 x' (b9 (vs++[x])))(hf:x'.ownBlock=v.ownBlock∨∀k,x'.ownBlock=some k→wj.heap.size≤k)(hc2:aE (fun k=>k=gm) w1 w2)(hB:aK w2 gm TN (bu el u x')):fm w0 w w2 ns g gf gt gc g2 rb2 gr ra2 n2 D Dk el gm u x' us (vs++[x]) done:=by
 have hzw:=h.aA.size;have hz1:=hc1.size;have hbase:=h.base;have hgl:=h.bY.lt;have hlow:=h.low;have hdk:∀p∈Dk,∀(s:Bool) (k:Nat),(p.2.sv s).ownBlock=some k→k<wj.heap.size:=fun p hp s k hk=>(h.cp.lt hp).2 s k hk;have hkU:∀k,v.ownBlock=some k→k≠gm:=fun k hk e=>by
  subst e;obtain⟨_,_,hb⟩:=h.own.2.kind hk;exact absurd (bW hb h.bY) aw
 have hkV:∀k,u.ownBlock=some k→k≠gm:=fun k hk e=>by
  subst e;obtain⟨_,_,hb⟩:=h.own.1.kind hk;exact absurd (bW hb h.bY) aw
 have hltV:∀k,u.ownBlock=some k→k<wj.heap.size:=fun k hk=>h.own.1.lt k hk;have hrU:∀k,v.ownBlock=some k→k≠rb2:=fun k hk=>h.q0.2 k (.inr hk);have hgr:=h.q0.1;have hcp1:=h.cp.aA hc1 (fun k hk=>by have:=(h.fresh k (.inr hk)).1;omega) (fun k hk=>h.cp.DE h.own.2 (fun k hk=>(h.fresh k (.inr hk)).2) hk);have hB1:aK w1 gm TN (bu el u v):=h.bY.aA hc1 fun hk=>hkU gm hk rfl;have hcp2:=hcp1.aA hc2 (fun k hk=>by have hk:k=gm:=hk;omega) (fun k hk=>by have hk:k=gm:=hk;subst hk;exact hcp1.Au hB1 h.ne);have hxne:∀k,x'.ownBlock=some k→k≠gm:=fun k hk=>by
  rcases hf with e|e
  ·rw [e]at hk;exact hkU k hk
  ·have:=e k hk;omega
 have hxfr:∀k,x'.ownBlock=some k→w.heap.size≤k∧∀p∈Dk,∀s,(p.2.sv s).ownBlock≠some k:=fun k hk=>by
  rcases hf with e|e
  ·rw [e]at hk;exact h.fresh k (.inr hk)
  ·have h1:=e k hk;exact⟨by omega,fun p hp s hp2=>by have:=hdk p hp s k hp2;omega⟩
 have hxV:∀k,x'.ownBlock=some k→u.ownBlock≠some k:=fun k hk hv=>by
  rcases hf with e|e
  ·rw [e]at hk;exact h.uv k hv hk
  ·have:=e k hk;have:=hltV k hv;omega
 have hVfr:∀k,u.ownBlock=some k→w.heap.size≤k∧∀p∈Dk,∀s,(p.2.sv s).ownBlock≠some k:=fun k hk=>h.fresh k (.inl hk);have hxO:Own w2 TP 1 x' (b9 (vs++[x])):=hO.aA hc2 fun k hk e=>hxne k hk e;have hVO:Own w2 TP 1 u (b9 us):=(h.own.1.aA hc1 fun k hk hu=>h.uv k hk hu).aA hc2 fun k hk e=>hkV k hk e;exact⟨hcp2,h.pre,h.cover,hB,h.low,h.ne,aE.trans (aE.trans (h.aA.mono (T:=fun k=>k=rb2∨w.heap.size≤k) fun k _ hk=>.inl hk) hc1 fun k _ hk=>.inr (h.fresh k (.inr hk)).1) hc2 (fun k _ hk=>.inr (by have hk:k=gm:=hk;omega))|>.mono (fun k hk hh=>by
   rcases hh with hh|hh
   ·exact hh
   ·omega),⟨hVO,hxO⟩,fun k hk=>by
   rcases hk with hk|hk
   ·exact hVfr k hk
   ·exact hxfr k hk,fun k hk hv=>hxV k hv hk,h.base⟩
theorem fm.start{w1 w2:World}(h:jG w0 w ns g gf gt gc g2 rb2 gr ra2 n2 D)(hx:Ext w w2)(hB:aK w2 gm TN (bu el (.slice none 0 0) (.slice none 0 0)))(hg:w.heap.size≤gm):fm w0 w w2 ns g gf gt gc g2 rb2 gr ra2 n2 D D el gm (.slice none 0 0) (.slice none 0 0) [] [] []:=
 ⟨h.then hx,⟨[],by simp,fun p hp=>nomatch hp⟩,fun j=>by simp,hB,hg,fun p hp e=>by have:=(h.lt hp).1;omega,hx.aA,⟨Own.nil,Own.nil⟩,fun k hk=>by rcases hk with hk|hk<;>simp [Value.ownBlock]at hk,fun k hk=>by simp [Value.ownBlock]at hk,h.ext.size⟩
theorem fm.fin{i:Nat}{z:Nn}(hG:Fu.Good (Fw.aR ns))(hz:ns[i]? =some z)(hel:bu el u v=bu z.el u v)(h:fm w0 w wj ns g gf gt gc g2 rb2 gr ra2 n2 D Dk el gm u v (z.el.left.map (gD Dk)) (z.el.right.map (gD Dk)) (z.el.left.flatMap (aY (Fw.aR ns))++z.el.right.flatMap (aY (Fw.aR ns))))
  (hno:∀p∈D,p.1∉aY (Fw.aR ns) i) (hc:aE (fun k=>k=rb2) wj w') (hM:b7 w' rb2 BE.me (kV (Dk++[(i,(⟨z.el,gm,u,v⟩:Nn))])) (kV (Dk++[(i,(⟨z.el,gm,u,v⟩:Nn))])).length):
  ∃X y,Value.pointer (some ⟨gm,0,none⟩)= .pointer (some ⟨y.g,0,none⟩)∧jG w0 w' ns g gf gt gc g2 rb2 gr ra2 n2 (D++X)∧(i,y)∈X∧(∀j,(∃p∈X,p.1=j)↔j∈aY (Fw.aR ns) i)∧(∀p∈X,w.heap.size≤p.2.g∧∀(s:Bool) (k:Nat),(p.2.sv s).ownBlock=some k→w.heap.size≤k)∧aE (fun k=>k=rb2) w w':=by
 have hze:(Fw.aR ns)[i]? =some z.el:=by rw [List.getElem?_map,hz];rfl
 have hil:=(List.getElem?_eq_some_iff.1 hze).1;have hwk:=dG hG.down hze;have hnd:=nS hG i hil;have hnd':=hnd;rw [hwk,List.nodup_append]at hnd;have hnc:=List.nodup_cons.1 hnd.2.1;have hself:∀c,c<(Fw.aR ns).length→c∈aY (Fw.aR ns) c:=fun c hc=>by
  obtain⟨x,hx⟩:∃x,(Fw.aR ns)[c]? =some x:=⟨_,List.getElem?_eq_getElem hc⟩;rw [dG hG.down hx];simp
 have hin:∀c,c∈z.el.left∨c∈z.el.right→∃q∈Dk,q.1=c:=fun c hc=>by
  refine(h.cover c).2 (.inr ?_);have hcl:=(hG.down i z.el hze c hc).2;rcases hc with hc|hc
  ·exact List.mem_append_left _ (List.mem_flatMap.2 ⟨c,hc,hself c hcl⟩)
  ·exact List.mem_append_right _ (List.mem_flatMap.2 ⟨c,hc,hself c hcl⟩)
 have hiD:∀p∈Dk,p.1≠i:=fun p hp e=>by
  rcases(h.cover i).1 ⟨p,hp,e⟩with⟨q,hq,hqe⟩|hh
  ·exact hno q hq (by rw [hqe];exact hself i hil)
  ·rcases List.mem_append.1 hh with hh|hh
   ·exact hnd.2.2 i hh i aL rfl
   ·exact hnc.1 hh
 have hgd:∀l:List Nat,(∀c∈l,∃q∈Dk,q.1=c)→l.map (gD (Dk++[(i,(⟨z.el,gm,u,v⟩:Nn))]))=l.map (gD Dk):=fun l hl=>List.map_congr_left fun c hc=>yD (hl c hc);obtain⟨X,hX,hXn⟩:=h.pre;have hmn:=h.q0;refine⟨X++[(i,⟨z.el,gm,u,v⟩)],⟨z.el,gm,u,v⟩,rfl,?_,by simp,fun j=>?_,fun p hp=>?_,h.aA.trans hc fun k _ hk=>hk⟩
 ·rw [←List.append_assoc,←hX];have hne0:∀{k:Nat} {cs:Array Value} {t:TypeId} {fz:Nat×Nat},wj.heap[k]? =some (.cells cs t fz)→k≠rb2:=fun hk e=>by subst e;exact ja hk h.cp.map
  refine⟨h.cp.ext.step hc (fun k hk=>by have hk:k=rb2:=hk;rw [hk];exact h.cp.low),h.cp.from_.aA hc fun e=>hne0 h.cp.from_ e,h.cp.tbox.aA hc fun e=>hne0 h.cp.tbox e,h.cp.cbox.aA hc fun e=>hne0 h.cp.cbox e,h.cp.tree.aA hc fun e=>hne0 h.cp.tree e,hM,fun p hp=>?_,fun p hp s=>?_,fun p hp c hcc=>?_,?_,fun p hp q hq e=>?_,fun p hp q hq s t k e1 e2=>?_,h.cp.low,fun p hp=>?_⟩
  ·rcases List.mem_append.1 hp with hp|hp
   ·obtain⟨y,h1,h2,h3⟩:=h.cp.node p hp;exact⟨y,h1,h2,h3.aA hc fun e=>hne0 h3 e⟩
   ·simp at hp;subst hp;exact⟨z,hz,rfl,by show aK w' gm TN (bu z.el u v);rw [←hel];exact h.bY.aA hc hmn.1⟩
  ·rcases List.mem_append.1 hp with hp|hp
   ·rw [hgd _ fun c hcm=>h.cp.has p hp c (by unfold side at hcm;cases s<;>first|exact .inr hcm|exact .inl hcm)];exact(h.cp.kids p hp s).aA hc fun k hk e=>by obtain⟨_,_,hb⟩:=(h.cp.kids p hp s).kind hk;exact hne0 hb e
   ·simp at hp;subst hp;rw [hgd _ fun c hcm=>hin c (by unfold side at hcm;cases s<;>first|exact .inr hcm|exact .inl hcm)];cases s
    ·exact h.own.2.aA hc fun k hk e=>hmn.2 k (.inr hk) e
    ·exact h.own.1.aA hc fun k hk e=>hmn.2 k (.inl hk) e
  ·rcases List.mem_append.1 hp with hp|hp
   ·obtain⟨q,hq,hqc⟩:=h.cp.has p hp c hcc;exact⟨q,by simp [hq],hqc⟩
   ·simp at hp;subst hp;obtain⟨q,hq,hqc⟩:=hin c hcc;exact⟨q,by simp [hq],hqc⟩
  ·rw [List.map_append,List.nodup_append];refine⟨h.cp.nodup,by simp,fun a ha b hb=>?_⟩;obtain⟨p,hp,rfl⟩:=List.mem_map.1 ha;simp at hb;subst hb;exact hiD p hp
  ·rcases List.mem_append.1 hp with hp|hp<;>rcases List.mem_append.1 hq with hq|hq
   ·exact h.cp.inj p hp q hq e
   ·simp at hq;subst hq;exact absurd e (h.ne p hp)
   ·simp at hp;subst hp;exact absurd e.symm (h.ne q hq)
   ·simp at hp hq;rw [hp,hq]
  ·have hnew:∀(s:Bool) (k:Nat),((⟨z.el,gm,u,v⟩:Nn).sv s).ownBlock=some k→u.ownBlock=some k∨v.ownBlock=some k:=fun s k hk=>by cases s<;>simp [Nn.sv]at hk<;>simp [hk]
   rcases List.mem_append.1 hp with hp|hp<;>rcases List.mem_append.1 hq with hq|hq
   ·exact h.cp.sep p hp q hq s t k e1 e2
   ·simp at hq;subst hq;exact absurd e1 ((h.fresh k (hnew t k e2)).2 p hp s)
   ·simp at hp;subst hp;exact absurd e2 ((h.fresh k (hnew s k e1)).2 q hq t)
   ·simp at hp hq;subst hp;subst hq;refine⟨rfl,?_⟩;cases s<;>cases t<;>simp only [Nn.sv,cond_true,cond_false]at e1 e2<;>first|rfl|exact absurd e2 (h.uv k e1)|exact absurd e1 (h.uv k e2)
  ·have hb:=h.base;rcases List.mem_append.1 hp with hp|hp
   ·exact h.cp.new p hp
   ·simp at hp;subst hp;have hl:=h.low;refine⟨by show w0.heap.size≤gm;omega,fun s k hk=>?_⟩;have:=(h.fresh k (by cases s<;>simp [Nn.sv]at hk<;>simp [hk])).1;omega
 ·rw [hwk];constructor
  ·rintro⟨p,hp,rfl⟩;rcases List.mem_append.1 hp with hp|hp
   ·have hpk:p∈Dk:=by rw [hX];simp [hp]
    rcases(h.cover p.1).1 ⟨p,hpk,rfl⟩with⟨q,hq,hqe⟩|hh
    ·exfalso;have hn:=h.cp.nodup;rw [hX,List.map_append,List.nodup_append]at hn;exact hn.2.2 q.1 (List.mem_map_of_mem hq) p.1 (List.mem_map_of_mem hp) hqe
    ·rcases List.mem_append.1 hh with hh|hh<;>simp [hh]
   ·simp at hp;subst hp;simp
  ·intro hj;rcases List.mem_append.1 hj with hj|hj
   ·obtain⟨p,hp,hpe⟩:=(h.cover j).2 (.inr (List.mem_append_left _ hj));rw [hX]at hp;rcases List.mem_append.1 hp with hp|hp
    ·exact absurd (by rw [hpe,hwk];exact List.mem_append_left _ hj) (hno p hp)
    ·exact⟨p,by simp [hp],hpe⟩
   ·rcases List.mem_cons.1 hj with rfl|hj
    ·exact⟨(j,⟨z.el,gm,u,v⟩),by simp,rfl⟩
    ·obtain⟨p,hp,hpe⟩:=(h.cover j).2 (.inr (List.mem_append_right _ hj));rw [hX]at hp;rcases List.mem_append.1 hp with hp|hp
     ·exact absurd (by rw [hpe,hwk];exact List.mem_append_right _ (List.mem_cons_of_mem _ hj)) (hno p hp)
     ·exact⟨p,by simp [hp],hpe⟩
 ·rcases List.mem_append.1 hp with hp|hp
  ·exact hXn p hp
  ·simp at hp;subst hp;exact⟨h.low,fun s k hk=>(h.fresh k (by cases s<;>simp [Nn.sv]at hk<;>simp [hk])).1⟩
end
end Go.Proofs.YtmehkigmnpjcjaaGreatDoor
namespace Go.Fw
open Go.RowKit
section
variable {P:Program} {n:NN} {fr:Fr} {w:World} {ty:TypeId}
theorem Y.n4{x y:Operand}{p q:ByteArray}{t t':TypeId}(hx:ev fr x=some (.string p))(hy:ev fr y=some (.string q))(h:p.size+q.size≤9223372036854775807):
  Yw P n fr (.binOp .add t x y t') ty w (.string (p++q)) w:=Y.bin hx hy (by simp [eqGuard_at_string]) (by
   have:¬(((p.size+q.size:Nat):Int)>IntKind.i64.max):=by simp only [IntKind.max,IntKind.bits,IntKind.signed];simp;omega
   simp only [binOp,Op.stringOp,this];rfl)
theorem St.Dg{x:Operand}{s d e:TypeId}{str:ByteArray}(hs:P.underlying s=some .string)(hd:P.underlying d=some (.slice e))(he:P.underlying e=some (.int .u8))(hx:ev fr x=some (.string str))(hr:str.size≤140737488351232):
  St P n fr (.convert s d x) ty w (fun v w'=>Own w' e 1 v (az str.toList)∧Ext w w'∧∀g,v.ownBlock=some g→w.heap.size≤g):=fun a o' ho hty ha=>by
 have h1:=run_bytes_of_string (P:=P) w s d e str hs hd he;refine⟨_,_,by simp only [execOp,ho,ha.ev hx];rw [Sem.run_bind,h1];rfl,?_,?_,?_⟩
 ·have hge:=grownCap_ge w str.size 0 e;have hle:grownCap w str.size 0 e≤maxLen:=grownCap_le_maxLen w str.size 0 e (by simp only [maxLen];omega);have hl:=bR str;have hc:(az str.toList).length=str.size:=by rw [aS,hl]
  have hrow:bytesRow str (grownCap w str.size 0 e)=(az str.toList++List.replicate (grownCap w str.size 0 e-str.size) (Value.int .u8 0)).toArray:=by
   apply Array.ext';simp [bytesRow,az,ByteArray.toList_eq];exact fun _ _=>rfl
  refine .inr ⟨w.heap.size,str.size,grownCap w str.size 0 e,List.replicate (grownCap w str.size 0 e-str.size) (.int .u8 0),((bytesRow str (grownCap w str.size 0 e)).size,(bytesRow str (grownCap w str.size 0 e)).size+1),rfl,?_,by omega,hge,hle,by simp [hc];omega,?_⟩
  ·rw [←hrow];exact heap_alloc_new _ _
  ·intro o ho' h;simp only [bytesRow,Array.size_append,Array.size_map,Array.size_replicate]at h;have:str.data.size=str.size:=rfl;omega
 ·exact aE.drew.trans (aE.alloc (S:=fun _=>False) _) (fun _ _ f=>f.elim)
 ·intro g hg;simp [Value.ownBlock]at hg;omega
end
theorem dw(a b:List UInt8):bs a++bs b=bs (a++b):=by
 apply ByteArray.ext;simp [bs]
end Go.Fw
namespace Go.Fw
open Go.RowKit
end Go.Fw
