/- Parts of a proof: what its last text leans on. No condition. -/
import Derived.Test.YtmehkigmnpjcjaaGreatDoorK28
set_option linter.unusedSimpArgs false
set_option linter.unusedVariables false
namespace Go.Proofs.YtmehkigmnpjcjaaGreatDoor
open Go.RowKit Go.Fw Go.Fu Go.Pl Go.Proofs.Tryz
theorem xP(r:aF)(b:UInt8)(gn:Bool)(w:World):(Instr.build TN [(0,dE r),(1,Value.int .u8 (b.toNat:Int)),(2,Value.bool gn)].toArray).run prog w= .ok (.agg (bu ⟨r,b,gn,[],[]⟩ (.slice none 0 0) (.slice none 0 0)).toArray) w:=run_build w _ _ _ (by
 have hb:∀parts,prog.built TN parts=Instr.fill (fun i=>#[(0,34),(34,1),(35,1),(36,1),(37,1)][i]?) (bu ⟨aF.zero,0,false,[],[]⟩ (.slice none 0 0) (.slice none 0 0)).toArray parts:=fun parts=>by kernel_rfl
 show prog.built _ [(0,dE r),(1,Value.int .u8 (b.toNat:Int)),(2,Value.bool gn)]=_;rw [hb];have e0:bu ⟨aF.zero,0,false,[],[]⟩ (.slice none 0 0) (.slice none 0 0)=[]++aX aF.zero++[bc 0,.bool false,.slice none 0 0,.slice none 0 0]:=rfl;rw [e0,bM [] (aX aF.zero) [bc 0,.bool false,.slice none 0 0,.slice none 0 0] (aX r) (by rw [ax];rfl) rfl (by rw [ax,ax]) rfl];have e1:[]++aX r++[bc 0,.bool false,.slice none 0 0,.slice none 0 0]=aX r++[bc 0]++[.bool false,.slice none 0 0,.slice none 0 0]:=by simp
 rw [e1,bM (aX r) [bc 0] [.bool false,.slice none 0 0,.slice none 0 0] [.int .u8 (b.toNat:Int)] rfl rfl rfl (ax r)];have e2:aX r++[Value.int .u8 (b.toNat:Int)]++[Value.bool false,.slice none 0 0,.slice none 0 0]=(aX r++[Value.int .u8 (b.toNat:Int)])++[Value.bool false]++[Value.slice none 0 0,.slice none 0 0]:=by simp
 rw [e2,bM (aX r++[Value.int .u8 (b.toNat:Int)]) [Value.bool false] [Value.slice none 0 0,.slice none 0 0] [Value.bool gn] rfl rfl rfl (by rw [List.length_append,ax];rfl),Instr.fill];simp [bu,bc])
section
variable {n:NN} {fr:Fr} {w:World} {ty:TypeId} {x y:Operand} {t':TypeId}
theorem Y.CF{a b:Nat}{ca cb:List Value}(ha:aK w a TN ca)(hb:aK w b TN cb)(hx:ev fr x=some (.pointer (some ⟨a,0,none⟩)))(hy:ev fr y=some (.pointer (some ⟨b,0,none⟩))):Yw prog n fr (.binOp .neq TP x y t') ty w (.bool (!decide (a=b))) w:=by
 obtain⟨j,hj,hjs⟩:∃j:TypeInfo,prog.info? TN=some j∧j.size=38:=by
  have:=Kv;obtain⟨j,hj,h⟩:=Option.map_eq_some_iff.1 this;exact⟨j,hj,h⟩
 refine Y.bin hx hy (by simp [eqGuard]) ?_;have h:∀d:Nat,(Op.equalIn (d+1) TP (.pointer (some ⟨a,0,none⟩)) (.pointer (some ⟨b,0,none⟩))).run prog w= .ok (decide (a=b)) w:=fun d=>by
  by_cases e:a=b
  ·subst e;simp [Op.equalIn,run_underlying underlying116,sizeOf,typeInfo,hj,run_sameAddr_same]
  ·have hne:(⟨a,0,none⟩:Addr)≠⟨b,0,none⟩:=fun h=>e (by injection h);have:=run_sameAddr_other (P:=prog) w hne (ha:w.heap[(⟨a,0,none⟩:Addr).block]? =_) (hb:w.heap[(⟨b,0,none⟩:Addr).block]? =_);simp [Op.equalIn,run_underlying underlying116,sizeOf,typeInfo,hj,hjs,this,e]
 simp only [binOp];simp [Op.equal,Op.maxDepth,h 9999]
end
theorem fm.FH{w0 w wj:World}{ns:List Nn}{g gf gt gc g2 rb2 gr ra2 n2:Nat}{D Dk:List (Nat×Nn)}{el:El}{gm:Nat}{u v:Value}{us vs done:List Nat}(h:fm w0 w wj ns g gf gt gc g2 rb2 gr ra2 n2 D Dk el gm u v us vs done):(∀k,u.ownBlock=some k∨v.ownBlock=some k→k≠gm∧k≠gf)∧gm≠gf∧rb2≠gf:=by
 refine⟨fun k hk=>⟨?_,?_⟩,?_,?_⟩
 ·rintro rfl;rcases hk with hk|hk
  ·obtain⟨_,_,hb⟩:=h.own.1.kind hk;exact absurd (bW hb h.bY) aw
  ·obtain⟨_,_,hb⟩:=h.own.2.kind hk;exact absurd (bW hb h.bY) aw
 ·rintro rfl;rcases hk with hk|hk
  ·obtain⟨_,_,hb⟩:=h.own.1.kind hk;exact absurd (bW hb h.cp.from_) aw
  ·obtain⟨_,_,hb⟩:=h.own.2.kind hk;exact absurd (bW hb h.cp.from_) aw
 ·rintro rfl;exact absurd (bW h.bY h.cp.from_) aw
 ·rintro rfl;exact ja h.cp.from_ h.cp.map
theorem nr{l:List Nat}{Dk X:List (Nat×Nn)}{k q:Nat}{y:Nn}(hn:((Dk++X).map (·.1)).Nodup)(hq:l[k]? =some q)(hin:∀c∈l.take k,∃p∈Dk,p.1=c)(hy:(q,y)∈X):(l.take k).map (gD Dk)++[y.g]=(l.take (k+1)).map (gD (Dk++X)):=by
 rw [List.take_add_one,hq,List.map_append];congr 1
 ·exact List.map_congr_left fun c hc=>(yD (hin c hc)).symm
 ·have:=zd hn (p:=(q,y)) (by simp [hy]);simpa using this.symm
theorem uT{e:List El}(hG:Fu.Good e){i q:Nat}(hil:i<e.length){D Dk:List (Nat×Nn)}{done:List Nat}(hcov:∀j,(∃p∈Dk,p.1=j)→(∃p∈D,p.1=j)∨j∈done)(hsub:(done++aY e q).Sublist (aY e i))(hno:∀p∈D,p.1∉aY e i):∀p∈Dk,p.1∉aY e q:=fun p hp hpq=>by
 rcases hcov p.1 ⟨p,hp,rfl⟩with⟨p',hp',he⟩|hd
 ·exact hno p' hp' (by rw [he];exact hsub.subset (List.mem_append_right _ hpq))
 ·have:=List.nodup_append.1 (List.Nodup.sublist hsub (nS hG i hil));exact this.2.2 p.1 hd p.1 hpq rfl
theorem m9{e:List El}(h:Down e){c:Nat}(hc:c<e.length):c∈aY e c:=by
 obtain⟨x,hx⟩:∃x,e[c]? =some x:=⟨_,List.getElem?_eq_getElem hc⟩;rw [dG h hx];simp
theorem xi{l:List Nat}{f:Nat→List Nat}{k c:Nat}(h:l[k]? =some c):((l.take k).flatMap f++f c).Sublist (l.flatMap f):=by
 rw [←dM h];have h2:l.flatMap f=(l.take (k+1)).flatMap f++(l.drop (k+1)).flatMap f:=by rw [←List.flatMap_append,List.take_append_drop]
 rw [h2];exact List.sublist_append_left _ _
set_option maxRecDepth 100000 in
set_option maxHeartbeats 4000000 in
theorem xd(g rb ra:Nat)(ad:List aD)(ns:List Nn)(gf gt gc g2 rb2 gr ra2 n2 i:Nat)(z:Nn)(wB w:World)(D:List (Nat×Nn))(hT:cH wB g rb ra ad ns)(hG:Fu.Good (Fw.aR ns))(hn:ns.length≤400001)(hzi:ns[i]? =some z)(IH:∀c,c∈z.el.left∨c∈z.el.right→Hy wB ns g gf gt gc g2 rb2 gr ra2 n2 c)(hD:jG wB w ns g gf gt gc g2 rb2 gr ra2 n2 D)(hno:∀p∈D,p.1∉aY (Fw.aR ns) i):Calls prog 54 #[.pointer (some ⟨fh ns i,0,none⟩),.pointer (some ⟨gf,0,none⟩),.pointer (some ⟨gt,0,none⟩),.pointer (some ⟨gc,0,none⟩)] w (cB fun r w'=>∃X y,r= .pointer (some ⟨y.g,0,none⟩)∧jG wB w' ns g gf gt gc g2 rb2 gr ra2 n2 (D++X)∧(i,y)∈X∧(∀j,(∃p∈X,p.1=j)↔j∈aY (Fw.aR ns) i)∧(∀p∈X,w.heap.size≤p.2.g∧∀(s:Bool) (k:Nat),(p.2.sv s).ownBlock=some k→w.heap.size≤k)∧aE (fun k=>k=rb2) w w'):=by
 rw [fH hzi];have hzi0:=hzi;have hkb1:=(hT.yH hG hzi true).2.2.1;have hkb2:=(hT.yH hG hzi false).2.2.1;obtain⟨xe,gx,lv,rv⟩:=z;have hze:(Fw.aR ns)[i]? =some xe:=by rw [List.getElem?_map,hzi];rfl
 have hil:=(List.getElem?_eq_some_iff.1 hze).1;have hkl:Own wB TP 1 lv (b9 (xe.left.map (fh ns))):=hT.kids i _ true hzi;have hkr:Own wB TP 1 rv (b9 (xe.right.map (fh ns))):=hT.kids i _ false hzi;have hz0:aK wB gx TN (bu xe lv rv):=hT.node i _ hzi;have hwk:=dG hG.down hze;have hdn:=hG.down i xe hze;dsimp only at IH⊢;obtain⟨A,m,c,rfl⟩:=hkl.lens;obtain⟨A2,m2,c2,rfl⟩:=hkr.lens;obtain⟨hlm,hlg⟩:=ij hkl;obtain⟨hrm,hrg⟩:=ij hkr;have hcm:=(hkl.mem A m c rfl).2.2.2;have hcm2:=(hkr.mem A2 m2 c2 rfl).2.2.2;unfold maxLen at hcm hcm2;have hm1:m≤400001:=by rw [List.length_map]at hkb1;have:xe.left.length≤ns.length:=hkb1;omega
 have hm2:m2≤400001:=by rw [List.length_map]at hkb2;have:xe.right.length≤ns.length:=hkb2;omega
 have hzb:=hz0.ext hD.ext;refine ar 85 [5] [(0,.pointer (some ⟨gx,0,none⟩)),(1,.pointer (some ⟨gf,0,none⟩)),(2,.pointer (some ⟨gt,0,none⟩)),(3,.pointer (some ⟨gc,0,none⟩))] func54 rfl rfl rfl aL G7 ?_;have hE:Ext w w:=aE.refl;refine CW.sr fun K1 hK1=>WL.a rfl<|WL.nil (hK1 _ _ ?_);clear hK1;refine CW.seq fun K2 hK2=>?_;refine CW.head 13 aG aG fun w1 hx1=>?_;skip;have hz1:=hx1.size;have hE:=hE.ae hx1;refine HL.val (Y.move rfl) aw<|HL.val (Y.nilCheck rfl) aw<|HL.val (Y.fieldAddr cG rfl) aw<|HL.val (Y.load underlying62 rfl ((hzb.ext hE).mem.dJ) (aT _) rfl) aw<|HL.val (Y.move rfl) aw<|HL.val (Y.nilCheck rfl) aw<|HL.val (Y.fieldAddr k7 rfl) aw<|HL.val (Y.ah underlying5 rfl ((hzb.ext hE).mem.ow) rfl) aw<|HL.val (Y.move rfl) aw<|HL.val (Y.nilCheck rfl) aw<|HL.val (Y.fieldAddr jc rfl) aw<|HL.val (Y.ah underlying4 rfl ((hzb.ext hE).mem.nV) rfl) aw<|HL.val (Y.build rfl (xP _ _ _ _)) aw ?_;refine HL.nil<|WL.box rfl rfl aw fun g24 w2 hx2 hg24 hB24=>?_;have hlt24:=hB24.lt;have hz2:=hx2.size;have hE:=hE.ae hx2;refine WL.a rfl<|WL.nil (hK2 _ _ ?_);clear hK2;refine CW.seq fun K3 hK3=>CW.sr fun K4 hK4=>WL.m rfl<|WL.v (Y.nilCheck rfl)<|WL.v (Y.fieldAddr dz rfl)<|WL.v (Y.ah underlying117 rfl ((hzb.ext hE).mem.fN) rfl)<|WL.v (Y.aq underlying117 rfl)<|WL.m rfl<|WL.nil (hK4 _ _ ?_);clear hK4;refine CW.block ?_;refine CW.loop (X:=Nat×Value×List (Nat×Nn)) (fun x=>[(0,.pointer (some ⟨gx,0,none⟩)),(1,.pointer (some ⟨gf,0,none⟩)),(2,.pointer (some ⟨gt,0,none⟩)),(3,.pointer (some ⟨gc,0,none⟩)),(6,.pointer (some ⟨g24,0,none⟩)),(28,.slice A m c),(29,.int .i64 (m:Int)),(30,.int .i64 (x.1:Int))]) (fun x w0=>x.1≤m∧fm wB w w0 ns g gf gt gc g2 rb2 gr ra2 n2 D x.2.2 xe g24 x.2.1 (.slice none 0 0) ((xe.left.take x.1).map (gD x.2.2)) [] ((xe.left.take x.1).flatMap (aY (Fw.aR ns)))) (fun x=>m-x.1) (0,.slice none 0 0,D) Fr.ok ⟨Nat.zero_le _,fm.start (w1:=w) hD hE hB24 ai⟩ ?_;intro x w3 hl3;obtain⟨k,u1,Dk⟩:=x;dsimp only at hl3⊢;obtain⟨hkm,hM⟩:=hl3;obtain⟨v1,hv1⟩:∃v1,v1=Value.slice none 0 0:=⟨_,rfl⟩;rw [←hv1]at hM;refine CW.sr fun K5 hK5=>WL.v (Y.lss rfl rfl)<|WL.nil (hK5 _ _ ?_);clear hK5;refine CW.seq fun K6 hK6=>?_;refine bp ?_ ?_<;>intro ht7
 ·refine CW.skip ?_;refine hK6 _ _ ?_;clear hK6;refine CW.seq fun K8 hK8=>?_;refine CW.block<|CW.seq fun K9 hK9=>?_;obtain⟨q,hq⟩:∃q,xe.left[k]? =some q:=⟨_,List.getElem?_eq_getElem ai⟩;have hqm:=List.mem_of_getElem? hq;obtain⟨a,rfl,hma⟩:=hlg k q hq;have hnq:∀p∈Dk,p.1∉aY (Fw.aR ns) q:=uT hG hil (fun j hj=>(hM.cover j).1 hj) ((xi hq).trans (by rw [hwk];exact List.sublist_append_left _ _)) hno;have hin:∀c∈xe.left.take k,∃p∈Dk,p.1=c:=fun c hc=>(hM.cover c).2 (.inr (List.mem_flatMap.2 ⟨c,hc,m9 hG.down (hdn c (.inl (List.mem_of_mem_take hc))).2⟩));refine CW.region<|WL.v (Y.af underlying117 rfl rfl a7 ai)<|WL.v (Y.ah underlying116 rfl ((hma.ext hM.cp.ext).cell0) rfl)<|WL.a rfl<|WL.nil (hK9 _ _ ?_);clear hK9;refine CW.held (fun wq=>aE (fun k=>k≠gf) w3 wq) aG 13 rfl fun w4 hx4=>?_;have hS:=Ext.aA (S:=fun k=>k≠gf) hx4;have hMk:=hM.then hx4
  refine RH.tk 0 hS rfl (fun wq hq=>Y.move rfl)<|RH.tk 1 hS rfl (fun wq hq=>Y.move rfl)<|RH.tk 2 hS rfl (fun wq hq=>Y.nilCheck rfl)<|RH.tk 3 hS rfl (fun wq hq=>Y.fieldAddr dz rfl)<|RH.tk 5 hS rfl (fun wq hq=>Y.ah underlying136 rfl (hM.cp.from_.aA hq (fun h=>h rfl)).mem.cell0 rfl)<|RH.tk 6 hS rfl (fun wq hq=>Y.move rfl)<|RH.two 4 7 aG ?_ ?_
  ·refine RS.val rfl (Y.ah underlying117 rfl hMk.bY.mem.fN rfl) aw ⟨hS,?_⟩;refine RH.one 7 aG ?_;refine RS.kp rfl rfl func54 rfl rfl rfl (IH q (.inl hqm) _ _ hMk.cp hnq) aw fun v41 w5 hR5=>?_;obtain⟨X,y,rfl,hX,hyX,hcov,hnew,hc5⟩:=hR5;have hkne:=hMk.FH;have hS:=hS.trans hc5 (fun k _ h=>by have h:k=rb2:=h;rw [h];exact hkne.2.2);have hMk:=hMk.call hX hcov hnew hc5;refine⟨hS,?_⟩;refine RH.one 8 aG ?_;refine RS.st rfl (St.buildSlice rfl (kP _)) aw fun v42 w6 hR6=>?_;obtain⟨gv,rfl,hgv,hBv,hx6⟩:=hR6;have hS:=hS.ae hx6;have hMk:=hMk.then hx6
   refine⟨hS,?_⟩;refine RH.one 9 aG ?_;refine RS.st rfl (St.append (m:=1) (news:=b9 [y.g]) UP UP k6 rfl rfl hMk.own.1 (Fw.Src.one hBv rfl) fq (by rw [a8,List.length_map,List.length_take];omega)) aw fun v43 w7 hR7=>?_;obtain⟨hO7,hc7,hf7⟩:=hR7;obtain⟨A7,n7,c7,rfl⟩:=hO7.lens;have hkne:=hMk.FH;have hS:=hS.trans hc7 (fun k _ h=>(hkne.1 k (.inl h)).2);have hB7:=hMk.bY.aA hc7 (fun h=>(hkne.1 _ (.inl h)).1 rfl);refine⟨hS,?_⟩;refine RH.tk 10 hS rfl (fun wq hq=>Y.nilCheck rfl)<|RH.tk 11 hS rfl (fun wq hq=>Y.fieldAddr dz rfl)<|RH.one 12 aG ?_;refine RS.store rfl (g:=g24) (pre:=aX xe.name++[bc xe.byte,.bool xe.gone]) (old:=[u1]) (post:=[v1]) (new:=[.slice A7 n7 c7]) rfl (by rw [add_zero',List.length_append,ax];rfl) rfl rfl aG (by simpa [bu]using hB7) rfl (dd rfl) (fun w8 hc8 hB8_=>?_);have hS:=hS.trans hc8 (fun k _ h=>by have h:k=g24:=h;rw [h];exact hkne.2.1);have hM8:=hMk.HJ hc7 (by rw [eU];exact hO7) hf7 hc8 (by simpa [bu]using hB8_);refine⟨hS,?_⟩;refine RH.done aG ?_;refine hK8 _ _ ?_;clear hK8;refine CW.region<|WL.v (Y.add rfl rfl bB)<|WL.m rfl<|WL.nil ?_;rw [nr hX.nodup hq hin hyX,←dM hq]at hM8;subst hv1;exact⟨(k+1,.slice A7 n7 c7,Dk++X),(by show m-(k+1)<m-k;omega),Fr.ok,(by show k+1≤m;omega),hM8⟩
  ·refine RS.kp rfl rfl func54 rfl rfl rfl (IH q (.inl hqm) _ _ hMk.cp hnq) aw fun v41 w9 hR9=>?_;obtain⟨X,y,rfl,hX,hyX,hcov,hnew,hc9⟩:=hR9;have hkne:=hMk.FH;have hS:=hS.trans hc9 (fun k _ h=>by have h:k=rb2:=h;rw [h];exact hkne.2.2);have hMk:=hMk.call hX hcov hnew hc9;refine⟨hS,?_⟩;refine RH.two 4 8 aG ?_ ?_
   ·refine RS.val rfl (Y.ah underlying117 rfl hMk.bY.mem.fN rfl) aw ⟨hS,?_⟩;refine RH.one 8 aG ?_;refine RS.st rfl (St.buildSlice rfl (kP _)) aw fun v42 w10 hR10=>?_;obtain⟨gv,rfl,hgv,hBv,hx10⟩:=hR10;have hS:=hS.ae hx10;have hMk:=hMk.then hx10
    refine⟨hS,?_⟩;refine RH.one 9 aG ?_;refine RS.st rfl (St.append (m:=1) (news:=b9 [y.g]) UP UP k6 rfl rfl hMk.own.1 (Fw.Src.one hBv rfl) fq (by rw [a8,List.length_map,List.length_take];omega)) aw fun v43 w11 hR11=>?_;obtain⟨hO11,hc11,hf11⟩:=hR11;obtain⟨A7,n7,c7,rfl⟩:=hO11.lens;have hkne:=hMk.FH;have hS:=hS.trans hc11 (fun k _ h=>(hkne.1 k (.inl h)).2);have hB7:=hMk.bY.aA hc11 (fun h=>(hkne.1 _ (.inl h)).1 rfl);refine⟨hS,?_⟩;refine RH.tk 10 hS rfl (fun wq hq=>Y.nilCheck rfl)<|RH.tk 11 hS rfl (fun wq hq=>Y.fieldAddr dz rfl)<|RH.one 12 aG ?_;refine RS.store rfl (g:=g24) (pre:=aX xe.name++[bc xe.byte,.bool xe.gone]) (old:=[u1]) (post:=[v1]) (new:=[.slice A7 n7 c7]) rfl (by rw [add_zero',List.length_append,ax];rfl) rfl rfl aG (by simpa [bu]using hB7) rfl (dd rfl) (fun w12 hc12 hB12_=>?_);have hS:=hS.trans hc12 (fun k _ h=>by have h:k=g24:=h;rw [h];exact hkne.2.1);have hM8:=hMk.HJ hc11 (by rw [eU];exact hO11) hf11 hc12 (by simpa [bu]using hB12_);refine⟨hS,?_⟩;refine RH.done aG ?_;refine hK8 _ _ ?_;clear hK8;refine CW.region<|WL.v (Y.add rfl rfl bB)<|WL.m rfl<|WL.nil ?_;rw [nr hX.nodup hq hin hyX,←dM hq]at hM8;subst hv1;exact⟨(k+1,.slice A7 n7 c7,Dk++X),(by show m-(k+1)<m-k;omega),Fr.ok,(by show k+1≤m;omega),hM8⟩
   ·refine RS.st rfl (St.buildSlice rfl (kP _)) aw fun v42 w13 hR13=>?_;obtain⟨gv,rfl,hgv,hBv,hx13⟩:=hR13;have hS:=hS.ae hx13;have hMk:=hMk.then hx13
    refine⟨hS,?_⟩;refine RH.one 4 aG ?_;refine RS.val rfl (Y.ah underlying117 rfl hMk.bY.mem.fN rfl) aw ⟨hS,?_⟩;refine RH.one 9 aG ?_;refine RS.st rfl (St.append (m:=1) (news:=b9 [y.g]) UP UP k6 rfl rfl hMk.own.1 (Fw.Src.one hBv rfl) fq (by rw [a8,List.length_map,List.length_take];omega)) aw fun v43 w14 hR14=>?_;obtain⟨hO14,hc14,hf14⟩:=hR14;obtain⟨A7,n7,c7,rfl⟩:=hO14.lens;have hkne:=hMk.FH;have hS:=hS.trans hc14 (fun k _ h=>(hkne.1 k (.inl h)).2);have hB7:=hMk.bY.aA hc14 (fun h=>(hkne.1 _ (.inl h)).1 rfl);refine⟨hS,?_⟩;refine RH.tk 10 hS rfl (fun wq hq=>Y.nilCheck rfl)<|RH.tk 11 hS rfl (fun wq hq=>Y.fieldAddr dz rfl)<|RH.one 12 aG ?_;refine RS.store rfl (g:=g24) (pre:=aX xe.name++[bc xe.byte,.bool xe.gone]) (old:=[u1]) (post:=[v1]) (new:=[.slice A7 n7 c7]) rfl (by rw [add_zero',List.length_append,ax];rfl) rfl rfl aG (by simpa [bu]using hB7) rfl (dd rfl) (fun w15 hc15 hB15_=>?_);have hS:=hS.trans hc15 (fun k _ h=>by have h:k=g24:=h;rw [h];exact hkne.2.1);have hM8:=hMk.HJ hc14 (by rw [eU];exact hO14) hf14 hc15 (by simpa [bu]using hB15_);refine⟨hS,?_⟩;refine RH.done aG ?_;refine hK8 _ _ ?_;clear hK8;refine CW.region<|WL.v (Y.add rfl rfl bB)<|WL.m rfl<|WL.nil ?_;rw [nr hX.nodup hq hin hyX,←dM hq]at hM8;subst hv1;exact⟨(k+1,.slice A7 n7 c7,Dk++X),(by show m-(k+1)<m-k;omega),Fr.ok,(by show k+1≤m;omega),hM8⟩
 refine CW.exit ?_;refine hK3 _ _ ?_;clear hK3;refine CW.seq fun K10 hK10=>CW.seq fun K11 hK11=>?_;have hke:xe.left.take k=xe.left:=List.take_of_length_le ai;rw [hke]at hM;have hzb:=hz0.ext hM.cp.ext;refine CW.region<|WL.m rfl<|WL.v (Y.nilCheck rfl)<|WL.v (Y.fieldAddr dC rfl)<|WL.v (Y.ah underlying117 rfl ((hzb.ext (aE.refl:Ext w3 w3)).mem.fP) rfl)<|WL.v (Y.aq underlying117 rfl)<|WL.m rfl<|WL.nil (hK11 _ _ ?_);clear hK11;refine CW.block ?_;refine CW.loop (X:=Nat×Value×List (Nat×Nn)) (fun x=>[(0,.pointer (some ⟨gx,0,none⟩)),(1,.pointer (some ⟨gf,0,none⟩)),(2,.pointer (some ⟨gt,0,none⟩)),(3,.pointer (some ⟨gc,0,none⟩)),(6,.pointer (some ⟨g24,0,none⟩)),(50,.slice A2 m2 c2),(51,.int .i64 (m2:Int)),(52,.int .i64 (x.1:Int))]) (fun x w0=>x.1≤m2∧fm wB w w0 ns g gf gt gc g2 rb2 gr ra2 n2 D x.2.2 xe g24 u1 x.2.1 (xe.left.map (gD x.2.2)) ((xe.right.take x.1).map (gD x.2.2)) (xe.left.flatMap (aY (Fw.aR ns))++(xe.right.take x.1).flatMap (aY (Fw.aR ns)))) (fun x=>m2-x.1) (0,.slice none 0 0,Dk) Fr.ok ⟨Nat.zero_le _,by rw [←hv1];simpa using hM⟩ ?_;intro x w16 hl16;subst hv1;obtain⟨k,v1,Dk⟩:=x;dsimp only at hl16⊢;obtain⟨hkm,hM⟩:=hl16;refine CW.sr fun K12 hK12=>WL.v (Y.lss rfl rfl)<|WL.nil (hK12 _ _ ?_);clear hK12;refine CW.seq fun K13 hK13=>?_;refine bp ?_ ?_<;>intro ht14
 ·refine CW.skip ?_;refine hK13 _ _ ?_;clear hK13;refine CW.seq fun K15 hK15=>?_;refine CW.block<|CW.seq fun K16 hK16=>?_;obtain⟨q,hq⟩:∃q,xe.right[k]? =some q:=⟨_,List.getElem?_eq_getElem ai⟩;have hqm:=List.mem_of_getElem? hq;obtain⟨a,rfl,hma⟩:=hrg k q hq;have hnq:∀p∈Dk,p.1∉aY (Fw.aR ns) q:=uT hG hil (fun j hj=>(hM.cover j).1 hj) (by rw [hwk,List.append_assoc];exact List.Sublist.append (List.Sublist.refl _) ((xi hq).trans (List.sublist_cons_self _ _))) hno;have hin:∀c∈xe.right.take k,∃p∈Dk,p.1=c:=fun c hc=>(hM.cover c).2 (.inr (List.mem_append_right _ (List.mem_flatMap.2 ⟨c,hc,m9 hG.down (hdn c (.inr (List.mem_of_mem_take hc))).2⟩)));have hlft:∀X:List (Nat×Nn),xe.left.map (gD Dk)=xe.left.map (gD (Dk++X)):=fun X=>List.map_congr_left fun c hc=>(yD ((hM.cover c).2 (.inr (List.mem_append_left _ (List.mem_flatMap.2 ⟨c,hc,m9 hG.down (hdn c (.inl hc)).2⟩))))).symm;refine CW.region<|WL.v (Y.af underlying117 rfl rfl a7 ai)<|WL.v (Y.ah underlying116 rfl ((hma.ext hM.cp.ext).cell0) rfl)<|WL.a rfl<|WL.nil (hK16 _ _ ?_);clear hK16;refine CW.held (fun wq=>aE (fun k=>k≠gf) w16 wq) aG 13 rfl fun w17 hx17=>?_;have hS:=Ext.aA (S:=fun k=>k≠gf) hx17;have hMk:=hM.then hx17
  refine RH.tk 0 hS rfl (fun wq hq=>Y.move rfl)<|RH.tk 1 hS rfl (fun wq hq=>Y.move rfl)<|RH.tk 2 hS rfl (fun wq hq=>Y.nilCheck rfl)<|RH.tk 3 hS rfl (fun wq hq=>Y.fieldAddr dC rfl)<|RH.tk 5 hS rfl (fun wq hq=>Y.ah underlying136 rfl (hM.cp.from_.aA hq (fun h=>h rfl)).mem.cell0 rfl)<|RH.tk 6 hS rfl (fun wq hq=>Y.move rfl)<|RH.two 4 7 aG ?_ ?_
  ·refine RS.val rfl (Y.ah underlying117 rfl hMk.bY.mem.fP rfl) aw ⟨hS,?_⟩;refine RH.one 7 aG ?_;refine RS.kp rfl rfl func54 rfl rfl rfl (IH q (.inr hqm) _ _ hMk.cp hnq) aw fun v63 w18 hR18=>?_;obtain⟨X,y,rfl,hX,hyX,hcov,hnew,hc18⟩:=hR18;have hkne:=hMk.FH;have hS:=hS.trans hc18 (fun k _ h=>by have h:k=rb2:=h;rw [h];exact hkne.2.2);have hMk:=hMk.call hX hcov hnew hc18;refine⟨hS,?_⟩;refine RH.one 8 aG ?_;refine RS.st rfl (St.buildSlice rfl (kP _)) aw fun v64 w19 hR19=>?_;obtain⟨gv,rfl,hgv,hBv,hx19⟩:=hR19;have hS:=hS.ae hx19;have hMk:=hMk.then hx19
   refine⟨hS,?_⟩;refine RH.one 9 aG ?_;refine RS.st rfl (St.append (m:=1) (news:=b9 [y.g]) UP UP k6 rfl rfl hMk.own.2 (Fw.Src.one hBv rfl) fq (by rw [a8,List.length_map,List.length_take];omega)) aw fun v65 w20 hR20=>?_;obtain⟨hO20,hc20,hf20⟩:=hR20;obtain⟨A7,n7,c7,rfl⟩:=hO20.lens;have hkne:=hMk.FH;have hS:=hS.trans hc20 (fun k _ h=>(hkne.1 k (.inr h)).2);have hB7:=hMk.bY.aA hc20 (fun h=>(hkne.1 _ (.inr h)).1 rfl);refine⟨hS,?_⟩;refine RH.tk 10 hS rfl (fun wq hq=>Y.nilCheck rfl)<|RH.tk 11 hS rfl (fun wq hq=>Y.fieldAddr dC rfl)<|RH.one 12 aG ?_;refine RS.store rfl (g:=g24) (pre:=aX xe.name++[bc xe.byte,.bool xe.gone,u1]) (old:=[v1]) (post:=[]) (new:=[.slice A7 n7 c7]) rfl (by rw [add_zero',List.length_append,ax];rfl) rfl rfl aG (by simpa [bu]using hB7) rfl (dd rfl) (fun w21 hc21 hB21_=>?_);have hS:=hS.trans hc21 (fun k _ h=>by have h:k=g24:=h;rw [h];exact hkne.2.1);have hM8:=hMk.mq hc20 (by rw [eU];exact hO20) hf20 hc21 (by simpa [bu]using hB21_);refine⟨hS,?_⟩;refine RH.done aG ?_;refine hK15 _ _ ?_;clear hK15;refine CW.region<|WL.v (Y.add rfl rfl bB)<|WL.m rfl<|WL.nil ?_;rw [nr hX.nodup hq hin hyX,hlft X,List.append_assoc,←dM hq]at hM8;exact⟨(k+1,.slice A7 n7 c7,Dk++X),(by show m2-(k+1)<m2-k;omega),Fr.ok,(by show k+1≤m2;omega),hM8⟩
  ·refine RS.kp rfl rfl func54 rfl rfl rfl (IH q (.inr hqm) _ _ hMk.cp hnq) aw fun v63 w22 hR22=>?_;obtain⟨X,y,rfl,hX,hyX,hcov,hnew,hc22⟩:=hR22;have hkne:=hMk.FH;have hS:=hS.trans hc22 (fun k _ h=>by have h:k=rb2:=h;rw [h];exact hkne.2.2);have hMk:=hMk.call hX hcov hnew hc22;refine⟨hS,?_⟩;refine RH.two 4 8 aG ?_ ?_
   ·refine RS.val rfl (Y.ah underlying117 rfl hMk.bY.mem.fP rfl) aw ⟨hS,?_⟩;refine RH.one 8 aG ?_;refine RS.st rfl (St.buildSlice rfl (kP _)) aw fun v64 w23 hR23=>?_;obtain⟨gv,rfl,hgv,hBv,hx23⟩:=hR23;have hS:=hS.ae hx23;have hMk:=hMk.then hx23
    refine⟨hS,?_⟩;refine RH.one 9 aG ?_;refine RS.st rfl (St.append (m:=1) (news:=b9 [y.g]) UP UP k6 rfl rfl hMk.own.2 (Fw.Src.one hBv rfl) fq (by rw [a8,List.length_map,List.length_take];omega)) aw fun v65 w24 hR24=>?_;obtain⟨hO24,hc24,hf24⟩:=hR24;obtain⟨A7,n7,c7,rfl⟩:=hO24.lens;have hkne:=hMk.FH;have hS:=hS.trans hc24 (fun k _ h=>(hkne.1 k (.inr h)).2);have hB7:=hMk.bY.aA hc24 (fun h=>(hkne.1 _ (.inr h)).1 rfl);refine⟨hS,?_⟩;refine RH.tk 10 hS rfl (fun wq hq=>Y.nilCheck rfl)<|RH.tk 11 hS rfl (fun wq hq=>Y.fieldAddr dC rfl)<|RH.one 12 aG ?_;refine RS.store rfl (g:=g24) (pre:=aX xe.name++[bc xe.byte,.bool xe.gone,u1]) (old:=[v1]) (post:=[]) (new:=[.slice A7 n7 c7]) rfl (by rw [add_zero',List.length_append,ax];rfl) rfl rfl aG (by simpa [bu]using hB7) rfl (dd rfl) (fun w25 hc25 hB25_=>?_);have hS:=hS.trans hc25 (fun k _ h=>by have h:k=g24:=h;rw [h];exact hkne.2.1);have hM8:=hMk.mq hc24 (by rw [eU];exact hO24) hf24 hc25 (by simpa [bu]using hB25_);refine⟨hS,?_⟩;refine RH.done aG ?_;refine hK15 _ _ ?_;clear hK15;refine CW.region<|WL.v (Y.add rfl rfl bB)<|WL.m rfl<|WL.nil ?_;rw [nr hX.nodup hq hin hyX,hlft X,List.append_assoc,←dM hq]at hM8;exact⟨(k+1,.slice A7 n7 c7,Dk++X),(by show m2-(k+1)<m2-k;omega),Fr.ok,(by show k+1≤m2;omega),hM8⟩
   ·refine RS.st rfl (St.buildSlice rfl (kP _)) aw fun v64 w26 hR26=>?_;obtain⟨gv,rfl,hgv,hBv,hx26⟩:=hR26;have hS:=hS.ae hx26;have hMk:=hMk.then hx26
    refine⟨hS,?_⟩;refine RH.one 4 aG ?_;refine RS.val rfl (Y.ah underlying117 rfl hMk.bY.mem.fP rfl) aw ⟨hS,?_⟩;refine RH.one 9 aG ?_;refine RS.st rfl (St.append (m:=1) (news:=b9 [y.g]) UP UP k6 rfl rfl hMk.own.2 (Fw.Src.one hBv rfl) fq (by rw [a8,List.length_map,List.length_take];omega)) aw fun v65 w27 hR27=>?_;obtain⟨hO27,hc27,hf27⟩:=hR27;obtain⟨A7,n7,c7,rfl⟩:=hO27.lens;have hkne:=hMk.FH;have hS:=hS.trans hc27 (fun k _ h=>(hkne.1 k (.inr h)).2);have hB7:=hMk.bY.aA hc27 (fun h=>(hkne.1 _ (.inr h)).1 rfl);refine⟨hS,?_⟩;refine RH.tk 10 hS rfl (fun wq hq=>Y.nilCheck rfl)<|RH.tk 11 hS rfl (fun wq hq=>Y.fieldAddr dC rfl)<|RH.one 12 aG ?_;refine RS.store rfl (g:=g24) (pre:=aX xe.name++[bc xe.byte,.bool xe.gone,u1]) (old:=[v1]) (post:=[]) (new:=[.slice A7 n7 c7]) rfl (by rw [add_zero',List.length_append,ax];rfl) rfl rfl aG (by simpa [bu]using hB7) rfl (dd rfl) (fun w28 hc28 hB28_=>?_);have hS:=hS.trans hc28 (fun k _ h=>by have h:k=g24:=h;rw [h];exact hkne.2.1);have hM8:=hMk.mq hc27 (by rw [eU];exact hO27) hf27 hc28 (by simpa [bu]using hB28_);refine⟨hS,?_⟩;refine RH.done aG ?_;refine hK15 _ _ ?_;clear hK15;refine CW.region<|WL.v (Y.add rfl rfl bB)<|WL.m rfl<|WL.nil ?_;rw [nr hX.nodup hq hin hyX,hlft X,List.append_assoc,←dM hq]at hM8;exact⟨(k+1,.slice A7 n7 c7,Dk++X),(by show m2-(k+1)<m2-k;omega),Fr.ok,(by show k+1≤m2;omega),hM8⟩
 refine CW.exit ?_;refine hK10 _ _ ?_;clear hK10;have hke:xe.right.take k=xe.right:=List.take_of_length_le ai;rw [hke]at hM;have hzb:=hz0.ext hM.cp.ext;obtain⟨z0,hz0i⟩:∃z0,ns[0]? =some z0:=⟨_,List.getElem?_eq_getElem (by have:=hG.pos;rw [List.length_map]at this;exact this)⟩;have hr0:=(hT.node 0 z0 hz0i).ext hM.cp.ext;have htr:=(hT.bY.ext hM.cp.ext);rw [fH hz0i]at htr;have hnoe:cV BE.k xe.name (kV Dk) 0=none:=by
  cases hf:cV BE.k xe.name (kV Dk) 0 with
  |none=>rfl
  |some p=>
   obtain⟨_,hj,hkk⟩:=i5 hf;obtain⟨q,hq,_,hqn,_⟩:=xu (List.mem_of_getElem? hj);obtain⟨zq,hzq,hqe,_⟩:=hM.cp.node q hq;have:=hG.inj (i:=q.1) (j:=i) (x:=zq.el) (y:=xe) (by rw [List.getElem?_map,hzq];rfl) hze (by rw [←hqe,hqn,hkk]);exfalso;rcases(hM.cover q.1).1 ⟨q,hq,rfl⟩with⟨q',hq',he⟩|hd
   ·exact hno q' hq' (by rw [he,this];exact m9 hG.down hil)
   ·have hnd:=nS hG i hil;rw [hwk,List.nodup_append]at hnd;rw [this]at hd;rcases List.mem_append.1 hd with hd|hd
    ·exact hnd.2.2 i hd i aL rfl
    ·exact(List.nodup_cons.1 hnd.2.1).1 hd
 refine CW.bK (X:=Unit) (fun _=>[(0,.pointer (some ⟨gx,0,none⟩)),(1,.pointer (some ⟨gf,0,none⟩)),(2,.pointer (some ⟨gt,0,none⟩)),(3,.pointer (some ⟨gc,0,none⟩)),(6,.pointer (some ⟨g24,0,none⟩))]) (fun _ wj=>∃X y,Value.pointer (some ⟨g24,0,none⟩)= .pointer (some ⟨y.g,0,none⟩)∧jG wB wj ns g gf gt gc g2 rb2 gr ra2 n2 (D++X)∧(i,y)∈X∧(∀j,(∃p∈X,p.1=j)↔j∈aY (Fw.aR ns) i)∧(∀p∈X,w.heap.size≤p.2.g∧∀(s:Bool) (k:Nat),(p.2.sv s).ownBlock=some k→w.heap.size≤k)∧aE (fun k=>k=rb2) w wj) ?_ ?_
 ·refine CW.sr fun K18 hK18=>WL.m rfl<|WL.v (Y.ah underlying48 rfl hM.cp.tbox.mem.cell0 rfl)<|WL.v (Y.nilCheck rfl)<|WL.v (Y.fieldAddr eJ rfl)<|WL.v (Y.ah underlying116 rfl htr.mem.iV rfl)<|WL.v (Y.CF hzb hr0 rfl rfl)<|WL.nil (hK18 _ _ ?_);clear hK18;refine bp ?_ ?_<;>intro ht19
  ·refine CW.head 9 aG aG fun w29 hx29=>?_;skip;have hz29:=hx29.size;have hMk:=hM.then hx29
   refine HL.val (Y.ah underlying48 rfl ((hM.cp.then hx29).cbox.mem.cell0) rfl) aw<|HL.val (Y.nilCheck rfl) aw<|HL.val (Y.fieldAddr gO rfl) aw<|HL.val (Y.ah underlying120 rfl ((hM.cp.then hx29).tree.mem.jZ) rfl) aw<|HL.val (Y.move rfl) aw<|HL.val (Y.nilCheck rfl) aw<|HL.val (Y.fieldAddr cG rfl) aw<|HL.val (Y.load underlying62 rfl hMk.bY.mem.dJ (aT _) rfl) aw<|HL.val (Y.move rfl) aw<|HL.nil<|WL.su (Su.qu (b:=(⟨xe.name,g24,(kV Dk).length⟩:BE)) Aj (fun _=>rfl) J9 rfl rfl rfl (hM.cp.then hx29).map hnoe rfl) fun w30 hR30=>?_;obtain⟨hM30,hc30⟩:=hR30;refine WL.nil ?_;have hi0:i≠0:=fun e=>by
    subst e;have e2:=Option.some.inj (hzi0.symm.trans hz0i);have e3:gx=z0.g:=by rw [←e2]
    exact absurd e3 (by assumption)
   exact⟨(),Fr.ok,fm.fin hG hzi0 rfl (hM.then hx29) hno hc30 (by rw [EK hi0,List.length_append];exact hM30)⟩
  refine CW.skip ?_;have hi0:i=0:=hT.inj i 0 _ z0 hzi0 hz0i (by simp_all);subst hi0;exact⟨(),Fr.ok,fm.fin hG hzi0 rfl hM hno aE.refl (by rw [CR];exact hM.cp.map)⟩
 rintro u w31 hj31;have hfin:=hj31;refine CW.sr fun K20 hK20=>WL.m rfl<|WL.a rfl<|WL.nil (hK20 _ _ ?_);clear hK20;refine CW.ret ⟨_,rfl,?_⟩;exact hfin
end Go.Proofs.YtmehkigmnpjcjaaGreatDoor
namespace Go.Proofs.YtmehkigmnpjcjaaGreatDoor
open Go.RowKit Go.Fw Go.Fu Go.Pl Go.Proofs.Tryz
theorem yK(g rb ra:Nat)(ad:List aD)(ns:List Nn)(gf gt gc g2 rb2 gr ra2 n2:Nat)(wB:World)(hT:cH wB g rb ra ad ns)(hG:Fu.Good (Fw.aR ns))(hn:ns.length≤400001):∀i,i<ns.length→Hy wB ns g gf gt gc g2 rb2 gr ra2 n2 i:=by
 have hel:(Fw.aR ns).length=ns.length:=List.length_map _;intro i hi;refine gJ hG.down (P:=Hy wB ns g gf gt gc g2 rb2 gr ra2 n2) (fun i x hx IH=>?_) i ai;have hil:=(List.getElem?_eq_some_iff.1 hx).1;obtain⟨z,hz⟩:∃z,ns[i]? =some z:=⟨_,List.getElem?_eq_getElem ai⟩;have hze:(Fw.aR ns)[i]? =some z.el:=by rw [List.getElem?_map,hz];rfl
 rw [hze]at hx;obtain rfl:=Option.some.inj hx;intro w D hD hno;exact xd g rb ra ad ns gf gt gc g2 rb2 gr ra2 n2 i z wB w D hT hG hn hz (fun c hc=>IH c hc (hG.down i z.el hze c hc).2) hD hno
end Go.Proofs.YtmehkigmnpjcjaaGreatDoor
namespace Go.Proofs.YtmehkigmnpjcjaaGreatDoor
open Go.RowKit Go.Fw Go.Fu Go.Pl Go.Proofs.Tryz
def p3:Nat→List AE→List AE
 |_,[]=>[]
 |c,e::r=>{e with born:=c}::p3 (c+1) r
theorem wO:∀{c:Nat} {vs:List AE} {e:AE},p3 c (vs++[e])=p3 c vs++[{e with born:=c+vs.length}]
 |_,[],_=>rfl
 |c,x::r,e=>by
  rw [List.cons_append,p3,wO,p3,List.cons_append,List.length_cons,show c+1+r.length=c+(r.length+1)by omega]
theorem zQ:∀{c:Nat} {vs:List AE},(p3 c vs).map AE.k=vs.map AE.k
 |_,[]=>rfl
 |c,x::r=>by rw [p3,List.map_cons,List.map_cons,zQ]
theorem oS:∀{c:Nat} {vs:List AE} {f:AE},f∈p3 c vs→∃e∈vs,f.k=e.k∧c≤f.born∧f.born<c+vs.length
 |_,[],_,h=>by cases h
 |c,x::r,f,h=>by
  rcases List.mem_cons.1 h with rfl|h
  ·exact⟨x,by simp,rfl,Nat.le_refl _,by rw [List.length_cons];show c<_;omega⟩
  ·obtain⟨e,he,h1,h2,h3⟩:=oS h;exact⟨e,by simp [he],h1,by omega,by rw [List.length_cons];omega⟩
theorem uV:∀{c:Nat} {vs:List AE},((p3 c vs).map AE.born).Nodup
 |_,[]=>List.nodup_nil
 |c,x::r=>by
  rw [p3,List.map_cons,List.nodup_cons];refine⟨fun h=>?_,uV⟩;obtain⟨f,hf,he⟩:=List.mem_map.1 h;obtain⟨_,_,_,h4,_⟩:=oS hf;rw [he]at h4;exact absurd h4 (by show¬c+1≤c;omega)
theorem Hx{l:List AE}(h:(l.map AE.k).Nodup){x y:AE}(hx:x∈l)(hy:y∈l)(he:x.k=y.k):x=y:=by
 obtain⟨i,hi⟩:=List.mem_iff_getElem?.1 hx;obtain⟨j,hj⟩:=List.mem_iff_getElem?.1 hy;have h1:(l.map AE.k)[i]? =some x.k:=by simp [hi]
 have h2:(l.map AE.k)[j]? =some x.k:=by simp [hj,he]
 have hlt:=(List.getElem?_eq_some_iff.1 h1).1;have e:=(List.getElem?_inj hlt h).1 (h1.trans h2.symm);subst e;exact Option.some.inj (hi.symm.trans hj)
theorem E8{l vs:List AE}{e:AE}{c:Nat}(h:(l.map AE.k).Nodup)(hs:∀x∈vs,x∈l)(he:e∈l)(hn:e∉vs):cV AE.k e.k (p3 c vs) 0=none:=by
 cases hf:cV AE.k e.k (p3 c vs) 0 with
 |none=>rfl
 |some p=>
  obtain⟨_,hj,hk⟩:=i5 hf;obtain⟨x,hx,h1,_⟩:=oS (List.mem_of_getElem? hj);exact absurd ((Hx h (hs x hx) he (h1.symm.trans hk))▸hx) hn
def nD(D:List (Nat×Nn))(c:Nat):Nn:=((D.find? fun p=>decide (p.1=c)).map fun p=>p.2).getD ⟨El.root,0,.slice none 0 0,.slice none 0 0⟩
theorem te{D:List (Nat×Nn)}(hn:(D.map (·.1)).Nodup){p:Nat×Nn}(hp:p∈D):nD D p.1=p.2:=by
 induction D with
 |nil=>cases hp
 |cons q r ih=>
  have hn':=List.nodup_cons.1 hn;unfold nD;rw [List.find?_cons];by_cases h:q.1=p.1
  ·rcases List.mem_cons.1 hp with rfl|hp
   ·simp
   ·exact absurd (List.mem_map.2 ⟨p,hp,h.symm⟩) hn'.1
  ·rw [decide_eq_false h];rcases List.mem_cons.1 hp with rfl|hp
   ·exact absurd rfl h
   ·exact ih hn'.2 hp
def BC(n:Nat)(D:List (Nat×Nn)):List Nn:=(List.range n).map (nD D)
theorem vE{n i:Nat}{D:List (Nat×Nn)}:(BC n D)[i]? =if i<n then some (nD D i)else none:=by
 rw [BC,List.getElem?_map];split
 ·rw [List.getElem?_range (by assumption)];rfl
 ·rw [List.getElem?_eq_none_iff.2 (by simp;omega)];rfl
theorem GF{n:Nat}{D:List (Nat×Nn)}(hn:(D.map (·.1)).Nodup)(hcov:∀i,(∃p∈D,p.1=i)↔i<n){x:Nn}(hx:x∈BC n D):∃p∈D,p.2=x:=by
 obtain⟨i,hi,rfl⟩:=List.mem_map.1 hx;obtain⟨p,hp,rfl⟩:=(hcov i).2 (List.mem_range.1 hi);exact⟨p,hp,(te hn hp).symm⟩
theorem Dy:∃i:TypeInfo,prog.info? JC=some i∧i.zero=some Value.nilFunc∧i.size=1:=by
 have h:(prog.info? JC).map (fun i=>(i.zero,i.size))=some (some Value.nilFunc,1):=by kernel_rfl
 obtain⟨i,hi,h⟩:=Option.map_eq_some_iff.1 h;injection h with h1 h2
 exact⟨i,hi,h1,h2⟩
theorem jG.JX{w0 w w':World}{ns:List Nn}{g gf gt gc g2 rb2 gr ra2 n2 ra rb:Nat}{ad:List aD}{D:List (Nat×Nn)}(h:jG w0 w ns g gf gt gc g2 rb2 gr ra2 n2 D)(hT:cH w0 g rb ra ad ns)(hG:Fu.Good (Fw.aR ns))(hcov:∀i,(∃p∈D,p.1=i)↔i<ns.length)
  (hc:aE (fun k=>k=g2) w w') (hb:aK w' g2 TF (jA (gD D 0) rb2 ra2 (dr ns))) (hadd:∃cl l,b7 w ra2 AE.me l cl∧(∀e∈l,e.born<cl)∧(l.map AE.born).Nodup∧(l.map AE.k).Nodup∧∀d,d∈l.map AE.k↔d∈ad) (hne:rb2≠ra2):
  cH w' g2 rb2 ra2 ad (BC ns.length D)∧Fw.aR (BC ns.length D)=Fw.aR ns:=by
 have hat:∀{i:Nat} {x:Nn},(BC ns.length D)[i]? =some x→(i,x)∈D:=fun{i x} hx=>by
  rw [vE]at hx;split at hx
  ·rename_i hi;obtain⟨p,hp,hpi⟩:=(hcov i).2 hi;injection hx with hx
   have:=te h.nodup hp;rw [hpi,hx]at this;obtain⟨p1,p2⟩:=p;dsimp only at hpi this;subst hpi;subst this;exact hp
  ·cases hx
 have hg:∀c,c<ns.length→fh (BC ns.length D) c=gD D c:=fun c hc=>by
  obtain⟨p,hp,hpi⟩:=(hcov c).2 hc;subst hpi;have h1:=te h.nodup hp;rw [fH (x:=p.2) (by rw [vE,if_pos hc,h1]),zd h.nodup hp]
 have hpos:0<ns.length:=by have:=hG.pos;rw [List.length_map]at this;exact this
 have hlen:(BC ns.length D).length=ns.length:=by simp [BC]
 have hels:Fw.aR (BC ns.length D)=Fw.aR ns:=by
  refine List.ext_getElem? fun i=>?_;rw [List.getElem?_map,List.getElem?_map,vE];split
  ·rename_i hi;obtain⟨p,hp,rfl⟩:=(hcov i).2 hi;obtain⟨z,hz,he,_⟩:=h.node p hp;rw [te h.nodup hp,hz,Option.map_some,Option.map_some,he]
  ·rename_i hi;rw [List.getElem?_eq_none_iff.2 ai]
 have hdn:∀{i:Nat} {x:Nn},(i,x)∈D→∀(s:Bool) (c:Nat),c∈side x.el s→c<ns.length:=fun{i x} hx s c hc=>by
  obtain⟨z,hz,he,_⟩:=h.node _ hx;have hze:(Fw.aR ns)[i]? =some x.el:=by rw [List.getElem?_map,hz];show some z.el=_;rw [←he]
  have:=(hG.down i x.el hze c (by cases s;exact .inr hc;exact .inl hc)).2;rwa [List.length_map]at this
 have hDl:D.length=ns.length:=by
  have h1:(D.map (·.1)).Perm (List.range ns.length):=(List.perm_ext_iff_of_nodup h.nodup List.nodup_range).2 fun i=>by
   rw [List.mem_range,←hcov i,List.mem_map]
  have:=h1.length_eq;simpa using this
 have hkne:∀{i:Nat} {x:Nn},(i,x)∈D→x.g≠g2∧∀s k,(x.sv s).ownBlock=some k→k≠g2:=fun{i x} hx=>by
  refine⟨?_,fun s k hk=>?_⟩
  ·rintro rfl;obtain⟨_,_,_,hB⟩:=h.node _ hx;exact absurd (bW hB h.tree) aw
  ·rintro rfl;obtain⟨_,_,h1⟩:=(h.kids _ hx s).kind hk;exact absurd (bW h1 h.tree) aw
 refine⟨?_,hels⟩;exact{
  bY:=by
   rw [hg 0 hpos];have:dr (BC ns.length D)=dr ns:=by unfold dr;rw [hels]
   rw [this];exact hb
  node:=fun i x hx=>by
   have hm:=hat hx;obtain⟨z,hz,he,hB⟩:=h.node _ hm;have hB:=hB.aA hc (fun e=>(hkne hm).1 e);exact hB
  kids:=fun i x s hx=>by
   have hm:=hat hx;have hO:=(h.kids _ hm s).aA hc (fun k hk e=>(hkne hm).2 s k hk e);have e:(side x.el s).map (gD D)=(side x.el s).map (fh (BC ns.length D)):=List.map_congr_left fun c hc=>(hg c (hdn hm s c hc)).symm;rw [←e];exact hO
  inj:=fun i j x y hx hy e=>h.inj _ (hat hx) _ (hat hy) e
  sep:=fun i j x y s t k hx hy h1 h2=>h.sep _ (hat hx) _ (hat hy) s t k h1 h2
  by_:=by
   refine⟨_,_,h.map.aA hc (fun e=>?_),fun e he=>?_,?_,?_,fun e he=>?_,fun i x hi hx=>?_⟩
   ·have hm:=h.map;rw [e]at hm;exact ja h.tree hm
   ·have h1:e.born∈(kV D).map BE.born:=List.mem_map.2 ⟨e,he,rfl⟩;rw [uJ,List.mem_range]at h1;exact h1
   ·rw [uJ];exact List.nodup_range
   ·rw [hlen,mV,←hDl];have h1:D.countP (fun p=>decide (p.1=0))=1:=by
     obtain⟨p,hp,hp0⟩:=(hcov 0).2 hpos;have h2:(D.map (·.1)).count 0=1:=(List.Nodup.count (a:=0) h.nodup).trans (if_pos (List.mem_map.2 ⟨p,hp,hp0⟩));rw [List.count_eq_countP,List.countP_map]at h2;rw [←h2];rfl
    have h3:=List.length_eq_countP_add_countP (l:=D) (fun p=>decide (p.1=0));have h4:D.countP (fun p=>decide (p.1≠0))=D.countP (fun p=>decide (¬decide (p.1=0)=true)):=List.countP_congr fun q _=>by simp
    rw [←List.countP_eq_length_filter,h4];omega
   ·obtain⟨p,hp,h0,h1,h2⟩:=xu he;have hlt:=(hcov p.1).1 ⟨p,hp,rfl⟩;exact⟨p.1,p.2,by omega,by rw [vE,if_pos hlt,te h.nodup hp],h1,h2⟩
   ·exact Fq (hat hx) (by show i≠0;omega)
  added:=by
   obtain⟨cl,l,hM,hr⟩:=hadd;exact⟨cl,l,hM.aA hc (fun e=>by have h1:=h.tree;unfold aK at h1;unfold b7 at hM;rw [e,h1]at hM;cases hM),hr⟩
  ne:=hne}
end Go.Proofs.YtmehkigmnpjcjaaGreatDoor
namespace Go.Proofs.YtmehkigmnpjcjaaGreatDoor
open Go.RowKit Go.Fw Go.Fu Go.Pl Go.Proofs.Tryz
theorem Bu(w:World):Calls prog 19 #[] w (cB fun v w'=>∃g rb ra gn,v= .pointer (some ⟨g,0,none⟩)∧w.heap.size≤g∧w.heap.size≤rb∧w.heap.size≤ra∧rb<ra∧aK w' g TF (jA gn rb ra 0)∧b7 w' rb BE.me ([]:List BE) 0∧b7 w' ra AE.me ([]:List AE) 0∧Ext w w'):=by
 refine ar 7 [0] [] func19 rfl rfl rfl aL ve ?_;have hE:Ext w w:=aE.refl;refine CW.sr fun K1 hK1=>WL.a rfl<|WL.nil (hK1 _ _ ?_);clear hK1;refine CW.sr fun K2 hK2=>WL.v (Y.build rfl (qS _))<|WL.box rfl rfl aw fun g2 w1 hx1 hg2 hB2=>?_;have hlt2:=hB2.lt;have hz1:=hx1.size;have hE:=hE.ae hx1;refine WL.st (St.makeMap) aw fun v3 w2 hR2=>?_;obtain⟨rb,rfl,hrb,hMb,hx2⟩:=hR2;have hz2:=hx2.size;have hE:=hE.ae hx2;have hlb:=(hMb BE BE.me).lt;refine WL.st (St.makeMap) aw fun v4 w3 hR3=>?_;obtain⟨ra,rfl,hra,hMa,hx3⟩:=hR3;have hz3:=hx3.size;have hE:=hE.ae hx3;refine WL.v (Y.build rfl (qI _ _ _ _))<|WL.box rfl rfl aw fun g6 w4 hx4 hg6 hB6=>?_;have hlt6:=hB6.lt;have hz4:=hx4.size;have hE:=hE.ae hx4;refine WL.a rfl<|WL.nil (hK2 _ _ ?_);clear hK2;refine CW.ret ⟨_,rfl,?_⟩;exact⟨_,rb,ra,_,rfl,by omega,by omega,by omega,by omega,hB6,((hMb BE BE.me).ext hx3).ext hx4,(hMa AE AE.me).ext hx4,hE⟩
set_option maxRecDepth 100000 in
set_option maxHeartbeats 4000000 in
theorem BD(g rb ra:Nat)(ad:List aD)(ns:List Nn)(w:World)(hT:cH w g rb ra ad ns)(hG:Fu.Good (Fw.aR ns))(hn:ns.length≤400001):Calls prog 26 #[.pointer (some ⟨g,0,none⟩)] w (cB fun v w'=>∃g' rb' ra' ns',v= .pointer (some ⟨g',0,none⟩)∧cH w' g' rb' ra' ad ns'∧Fw.aR ns'=Fw.aR ns∧(∀q,Fp g' rb' ra' ns' q→w.heap.size≤q)∧Ext w w'):=by
 obtain⟨cl,l,hMp,hold,hborn,hkeys,hmem⟩:=hT.added;obtain⟨ifn,hifn,hzfn,hsfn⟩:=Dy;have hraw:=hMp.lt;have hel:(Fw.aR ns).length=ns.length:=List.length_map _;have hT0:=hT;refine ar 45 [2] [(0,.pointer (some ⟨g,0,none⟩))] func26 rfl rfl rfl aL du ?_;have hE:Ext w w:=aE.refl;refine CW.sr fun K1 hK1=>WL.box rfl rfl aw fun g1 w1 hx1 hg1 hB1=>?_;have hlt1:=hB1.lt;have hz1:=hx1.size;have hE:=hE.ae hx1;refine WL.a rfl<|WL.nil (hK1 _ _ ?_);clear hK1;refine CW.seq fun K2 hK2=>CW.sr fun K3 hK3=>WL.v (Y.ah underlying48 rfl hB1.mem.cell0 rfl)<|WL.call func44 rfl rfl rfl (nj g rb ra ad ns _ (hT.ext hE)) aL ?_;rintro v w2 ⟨rfl,hx2⟩;have hz2:=hx2.size;have hE:=hE.ae hx2;have hB1:=hB1.ext hx2;refine WL.v (Y.not rfl)<|WL.nil (hK3 _ _ ?_);clear hK3;refine bp ?_ ?_<;>intro ht4
 ·refine CW.sr fun K5 hK5=>WL.a rfl<|WL.nil (hK5 _ _ ?_);clear hK5;refine CW.ret ⟨_,rfl,?_⟩;exact absurd (show true=false by assumption) aw
 refine CW.skip ?_;refine hK2 _ _ ?_;clear hK2;refine CW.sr fun K6 hK6=>WL.call func19 rfl rfl rfl (Bu _) aL ?_;rintro v10 w3 hR3;obtain⟨g2,rb2,ra2,gr,rfl,hg2,hrb2,hra2,hne2,hB2,hMb,hMa,hx3⟩:=hR3;have hz3:=hx3.size;have hE:=hE.ae hx3;have hB1:=hB1.ext hx3;have hlt2:=hB2.lt;have hltb:=hMb.lt;have hlta:=hMa.lt;have hgb:g2≠rb2:=by rintro rfl;exact ja hB2 hMb
 have hga:g2≠ra2:=by rintro rfl;exact ja hB2 hMa
 refine WL.xw aG rfl aL rfl rfl aw fun g3 w4 hx4 hg3 hB3=>?_;have hlt3:=hB3.lt;have hz4:=hx4.size;have hE:=hE.ae hx4;have hB1:=hB1.ext hx4;refine WL.nil (hK6 _ _ ?_);clear hK6;refine CW.seq fun K7 hK7=>?_;refine CW.head 7 aG aG fun w5 hx5=>?_;skip;have hz5:=hx5.size;have hE:=hE.ae hx5;have hB1:=hB1.ext hx5;have hB3:=hB3.ext hx5;refine HL.val (Y.ah underlying48 rfl hB3.mem.cell0 rfl) aw<|HL.val (Y.ah underlying48 rfl hB1.mem.cell0 rfl) aw<|HL.val (Y.nilCheck rfl) aw<|HL.val (Y.fieldAddr eL rfl) aw<|HL.val (Y.ah underlying3 rfl (hT.ext hE).bY.mem.lV rfl) aw<|HL.val (Y.nilCheck rfl) aw<|HL.val (Y.fieldAddr eL rfl) aw<|HL.nil<|WL.store (g:=g2) (pre:=[.pointer (some ⟨gr,0,none⟩),.map (some rb2),.map (some ra2)]) (old:=[.int .i64 ((0:Nat):Int)]) (post:=[]) (new:=[.int .i64 (dr ns:Int)]) rfl rfl rfl rfl aG ((hB2.ext hx4).ext hx5) j0 (dd rfl) (fun w6 hc6 hB6_=>?_);have hz6:=hc6.size;have hE:=hE.step hc6 (fun k h=>by omega);have hB1:=hB1.aA hc6 cq;have hB3:=hB3.aA hc6 cq;have hB2:aK w6 g2 TF (jA gr rb2 ra2 (dr ns)):=hB6_;have hMb:=((hMb.ext hx4).ext hx5).aA hc6 (fun h=>hgb h.symm);have hMa:=((hMa.ext hx4).ext hx5).aA hc6 (fun h=>hga h.symm);refine WL.nil (hK7 _ _ ?_);clear hK7;refine CW.seq fun K8 hK8=>CW.sr fun K9 hK9=>WL.v (Y.ah underlying48 rfl hB1.mem.cell0 rfl)<|WL.v (Y.nilCheck rfl)<|WL.v (Y.fieldAddr ji rfl)<|WL.v (Y.ah underlying71 rfl (hT.ext hE).bY.mem.lN rfl)<|WL.st (St.range JI rfl (hMp.ext hE) hold hborn) aw fun v22 w7 hR7=>?_;obtain⟨r22,rfl,hr22,hGo,hx7⟩:=hR7;have hz7:=hx7.size;have hE:=hE.ae hx7;have hB1:=hB1.ext hx7;have hB3:=hB3.ext hx7;have hB2:=hB2.ext hx7;have hMb:=hMb.ext hx7;have hMa:=hMa.ext hx7;have hltr:=hGo.lt;refine WL.nil (hK9 _ _ ?_);clear hK9;refine CW.block ?_;refine CW.loop (X:=List AE) (fun x=>[(1,.pointer (some ⟨g1,0,none⟩)),(3,.pointer (some ⟨g3,0,none⟩)),(22,.pointer (some ⟨r22,0,none⟩))]) (fun x w0=>fo w0 r22 ra AE.me l cl x∧aK w0 g1 JB [.pointer (some ⟨g,0,none⟩)]∧aK w0 g3 JB [.pointer (some ⟨g2,0,none⟩)]∧aK w0 g2 TF (jA gr rb2 ra2 (dr ns))∧b7 w0 rb2 BE.me ([]:List BE) 0∧b7 w0 ra2 AE.me (p3 0 x) (0+x.length)∧Ext w w0∧w7.heap.size≤w0.heap.size) (fun x=>l.length-x.length) [] Fr.ok ⟨hGo,hB1,hB3,hB2,hMb,hMa,hE,Nat.le_refl _⟩ ?_;intro x w8 hl8;obtain⟨hGo,hB1,hB3,hB2,hMb,hMa,hE,hz8⟩:=hl8;have hltg:=hGo.lt;refine CW.sr fun K10 hK10=>WL.st (St.next rfl hGo) aw fun v23 w9 hR9=>?_;obtain⟨bt,rest,rfl,hc9,hcase⟩:=hR9;have hz9:=hc9.size;have hE:=hE.step hc9 (fun k h=>by omega);have hB1:=hB1.aA hc9 cq;have hB3:=hB3.aA hc9 cq;have hB2:=hB2.aA hc9 cq;have hMb:=hMb.aA hc9 cq;have hMa:=hMa.aA hc9 cq;refine WL.v (Y.Ei rfl)<|WL.nil (hK10 _ _ ?_);clear hK10;refine CW.seq fun K11 hK11=>?_;refine bp ?_ ?_<;>intro ht12
 ·refine CW.skip ?_;refine hK11 _ _ ?_;clear hK11;obtain⟨e,hel2,hev,hGo⟩:∃e,e∈l∧e∉x∧fo w9 r22 ra AE.me l cl (x++[e]):=by
   rcases hcase with⟨_,h⟩|⟨h,_⟩
   ·exact h
   ·rw [h]at ht12;cases ht12
  refine CW.block<|CW.sr fun K13 hK13=>WL.v (Y.entry rfl hGo)<|WL.v (Y.extract rfl rfl)<|WL.v (Y.extract rfl rfl) ?_;refine ck rfl aL aw fun g4 w10 hx10 hg4 hB4=>?_;have hlt4:=hB4.lt;have hz10:=hx10.size;have hE:=hE.ae hx10;have hB1:=hB1.ext hx10;have hB3:=hB3.ext hx10;refine WL.a rfl<|WL.nil (hK13 _ _ ?_);clear hK13;refine CW.head 6 aG aG fun w11 hx11=>?_;skip;have hz11:=hx11.size;have hE:=hE.ae hx11;have hB1:=hB1.ext hx11;have hB3:=hB3.ext hx11;have hB4:=hB4.ext hx11;refine HL.val (Y.ah underlying48 rfl hB3.mem.cell0 rfl) aw<|HL.val (Y.nilCheck rfl) aw<|HL.val (Y.fieldAddr ji rfl) aw<|HL.val (Y.ah underlying71 rfl ((hB2.ext hx10).ext hx11).mem.lN rfl) aw<|HL.val (Y.load underlying42 rfl hB4.mem (aj _) rfl) aw<|HL.val (Y.move rfl) aw<|HL.nil<|WL.su (Su.qu (b:=({e with born:=0+x.length}:AE)) iP (fun _=>rfl) JI rfl rfl rfl ((hMa.ext hx10).ext hx11) (E8 hkeys (fun y hy=>hGo.sub y (by simp [hy])) hel2 hev) rfl) fun w12 hR12=>?_;obtain⟨hM12,hc12⟩:=hR12;have hz12:=hc12.size;have hE:=hE.step hc12 (fun k h=>by have h:k=ra2:=h;omega);have hfl:=hGo.G8;rw [List.length_append,List.length_singleton]at hfl;have hlg:=hGo.lt;refine WL.nil ?_;refine⟨x++[e],by show l.length-(x++[e]).length<l.length-x.length;rw [List.length_append,List.length_singleton];omega,Fr.ok,((hGo.ext hx10).ext hx11).aA hc12 cq cq,hB1.aA hc12 cq,hB3.aA hc12 cq,((hB2.ext hx10).ext hx11).aA hc12 (fun h=>hga h),((hMb.ext hx10).ext hx11).aA hc12 cq,?_,hE,by omega⟩;rw [wO,List.length_append,List.length_singleton,←Nat.add_assoc];exact hM12
 refine CW.exit ?_;refine hK8 _ _ ?_;clear hK8;refine CW.seq fun K14 hK14=>?_;rcases hcase with⟨h,_⟩|⟨_,hall,hGo⟩
 ·rw [h]at ht12;cases ht12
 have hp:=hGo.perm hall;refine CW.region<|WL.alloc (hifn) (hzfn) rfl aw fun g6 w13 hx13 hg6 hB6=>?_;have hlt6:=hB6.lt;have hz13:=hx13.size;have hE:=hE.ae hx13;have hB1:=hB1.ext hx13;have hB3:=hB3.ext hx13;refine WL.nil (hK14 _ _ ?_);clear hK14;refine CW.sr fun K15 hK15=>WL.v (Y.makeFunc rfl)<|WL.store (g:=g6) (pre:=[]) (old:=[Value.nilFunc]) (post:=[]) (new:=[.func (.func 54) #[] #[.pointer (some ⟨g6,0,none⟩),.pointer (some ⟨g1,0,none⟩),.pointer (some ⟨g3,0,none⟩)]]) rfl rfl rfl rfl aG (by simpa using hB6) j0 (dd rfl) (fun w14 hc14 hB14_=>?_);have hz14:=hc14.size;have hE:=hE.step hc14 (fun k h=>by omega);have hB1:=hB1.aA hc14 cq;have hB3:=hB3.aA hc14 cq;have hB6:aK w14 g6 JC [.func (.func 54) #[] #[.pointer (some ⟨g6,0,none⟩),.pointer (some ⟨g1,0,none⟩),.pointer (some ⟨g3,0,none⟩)]]:=by simpa using hB14_
 have hB2:=(hB2.ext hx13).aA hc14 cq;have hMb:=(hMb.ext hx13).aA hc14 cq;have hMa:=(hMa.ext hx13).aA hc14 cq;have hCp:jG w w14 ns g g6 g1 g3 g2 rb2 gr ra2 (dr ns) []:={
  ext:=hE
  from_:=hB6
  tbox:=hB1
  cbox:=hB3
  tree:=hB2
  map:=hMb
  node:=fun p hp=>by cases hp
  kids:=fun p hp=>by cases hp
  has:=fun p hp=>by cases hp
  nodup:=List.nodup_nil
  inj:=fun p hp=>by cases hp
  sep:=fun p hp=>by cases hp
  low:=by omega
  new:=fun p hp=>by cases hp}
 refine WL.nil (hK15 _ _ ?_);clear hK15;refine CW.seq fun K16 hK16=>?_;refine CW.held (fun wq=>aE (fun k=>k=g2∨k=rb2) w14 wq) aG 10 rfl fun w15 hx15=>?_;have hS:=Ext.aA (S:=fun k=>k=g2∨k=rb2) hx15;have hCp:=hCp.then hx15
 refine RH.tk 0 hS rfl (fun wq hq=>Y.ah underlying48 rfl (hB3.aA hq cq).mem.cell0 rfl)<|RH.tk 1 hS rfl (fun wq hq=>Y.ah underlying136 rfl (hB6.aA hq cq).mem.cell0 rfl)<|RH.tk 2 hS rfl (fun wq hq=>Y.ah underlying48 rfl (hB1.aA hq cq).mem.cell0 rfl)<|RH.tk 3 hS rfl (fun wq hq=>Y.nilCheck rfl)<|RH.tk 4 hS rfl (fun wq hq=>Y.fieldAddr eJ rfl)<|RH.tk 5 hS rfl (fun wq hq=>Y.ah underlying116 rfl (((hT.ext hE).aA hq (fun q hp h=>by have:=hT.lt hp;omega)).bY.mem.iV) rfl)<|RH.one 6 aG ?_;refine RS.kp rfl rfl func54 rfl rfl rfl (yK g rb ra ad ns g6 g1 g3 g2 rb2 gr ra2 (dr ns) w hT hG hn 0 (by have:=hG.pos;omega) _ [] hCp (fun p hp=>by cases hp)) aw fun v41 w16 hR16=>?_;obtain⟨X,y,rfl,hX,hyX,hcov,hnew,hc16⟩:=hR16;rw [List.nil_append]at hX;have hS:=hS.trans hc16 (fun k _ h=>.inr h);refine⟨hS,?_⟩;refine RH.tk 7 hS rfl (fun wq hq=>Y.nilCheck rfl)<|RH.tk 8 hS rfl (fun wq hq=>Y.fieldAddr eJ rfl)<|RH.one 9 aG ?_;refine RS.store rfl (g:=g2) (pre:=[]) (old:=[.pointer (some ⟨gr,0,none⟩)]) (post:=[.map (some rb2),.map (some ra2),.int .i64 (dr ns:Int)]) (new:=[.pointer (some ⟨y.g,0,none⟩)]) rfl rfl rfl rfl aG hX.tree rfl (dd rfl) (fun w17 hc17 hB17_=>?_);have hS:=hS.trans hc17 (fun k _ h=>.inl h);have hB17:aK w17 g2 TF (jA y.g rb2 ra2 (dr ns)):=hB17_;refine⟨hS,?_⟩;refine RH.done aG ?_;have hz17:=hS.size;have hE:=hE.step hS (fun k h=>by omega);have hB3:=hX.cbox.aA hc17 cq;have hgD:gD X 0=y.g:=zd hX.nodup hyX;have hMa16:=(hMa.ext hx15).aA hc16 cq;have hcov:∀i,(∃p∈X,p.1=i)↔i<ns.length:=fun i=>by rw [hcov i,←hel];exact hG.mem
 have hfin:=hX.JX hT hG hcov hc17 (by rw [hgD];exact hB17) ⟨_,_,hMa16,fun f hf=>(oS hf).choose_spec.2.2.2,uV,by rw [zQ];exact(hp.map AE.k).nodup_iff.2 hkeys,fun d=>by rw [zQ];exact(hp.map AE.k).mem_iff.trans (hmem d)⟩ ai;have hXn:=hX.nodup;have hXw:=hX.new;refine hK16 _ _ ?_;clear hK16;refine CW.sr fun K17 hK17=>WL.v (Y.ah underlying48 rfl hB3.mem.cell0 rfl)<|WL.a rfl<|WL.nil (hK17 _ _ ?_);clear hK17;refine CW.ret ⟨_,rfl,?_⟩;exact⟨g2,rb2,ra2,BC ns.length X,rfl,hfin.1,hfin.2,(fun q hq=>by
  rcases hq with h|h|h|⟨x,hx,h⟩
  ·omega
  ·omega
  ·omega
  ·obtain⟨p,hp,rfl⟩:=GF hXn hcov hx;rcases h with h|⟨s,h⟩
   ·have:=(hXw p hp).1;omega
   ·exact(hXw p hp).2 s q h),hE⟩
end Go.Proofs.YtmehkigmnpjcjaaGreatDoor
