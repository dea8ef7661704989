/- Parts of a proof: what its last text leans on. No condition. -/
import Derived.Test.YtmehkigmnpjcjaaGreatDoorK31
import Derived.Test.YtmehkigmnpjcjaaGreatDoorK32
set_option linter.unusedSimpArgs false
set_option linter.unusedVariables false
namespace Go.Fu
open Go.Pl Go.Fw
def tW(e:List El)(b:List UInt8):List ct:=if hZ (bZ e) b=0 then Al e b else []
theorem z8{a b:List UInt8}(h:hZ a b=0):HC a b=cj a b∧a.length≤1000∧b.length≤1000:=by
 unfold hZ at h;split at h
 ·cases h
 ·rename_i hc;exact⟨if_neg hc,by omega,by omega⟩
theorem sq{e:List El}{b:List UInt8}{k:Nat}{x:dm}(h:(cj (bZ e) b)[k]? =some x):(aU e b k).out.length+x.cost≤(bZ e).length+b.length:=by
 have h1:=(qj e b k).len;have h2:gz (cj (bZ e) b)=gz ((cj (bZ e) b).take (k+1))+gz ((cj (bZ e) b).drop (k+1)):=by rw [←lj,List.take_append_drop]
 rw [wT,Go.Pl.take_succ h,lj]at h2;have h3:gz [x]=x.cost:=by simp [gz]
 have h4:=qt (bZ e) b;omega
end Go.Fu
namespace Go.Proofs.YtmehkigmnpjcjaaGreatDoor
open Go.RowKit Go.Fw Go.Fu Go.Pl Go.Proofs.Tryz
abbrev Is:TypeId:=90
abbrev Kq:=underlying87
def rV:List Value:=[.nilFunc,.func (.func 29) #[] #[],.func (.func 30) #[] #[],.func (.func 31) #[] #[]]
theorem zv(w:World):(Instr.build Is [(1,Value.func (.func 29) #[] #[]),(2,Value.func (.func 30) #[] #[]),(3,Value.func (.func 31) #[] #[])].toArray).run prog w= .ok (.agg rV.toArray) w:=run_build w _ _ _ aG
theorem Fb:∀u∈rV,u.oneCell'=true:=by
 intro u hu;simp only [rV,List.mem_cons,List.not_mem_nil,or_false]at hu;rcases hu with rfl|rfl|rfl|rfl<;>rfl
theorem CH:∃i:TypeInfo,prog.info? Is=some i∧i.zero=some (.agg [Value.nilFunc,.nilFunc,.nilFunc,.nilFunc].toArray)∧i.size=4:=by
 have h:(prog.info? Is).map (fun i=>(i.zero,i.size))=some (some (.agg [Value.nilFunc,.nilFunc,.nilFunc,.nilFunc].toArray),4):=by kernel_rfl
 obtain⟨i,hi,h⟩:=Option.map_eq_some_iff.1 h;injection h with h1 h2
 exact⟨i,hi,h1,h2⟩
theorem kS:(prog.info? 87).map (·.size)=some 1:=by kernel_rfl
theorem k9{n:NN}{Φ:Exit→Fr→World→Prop}{fr:Fr}{w:World}{ops:Array Oper}{rest:List Oper}{d:Nat}{x:Operand}{ty ty':TypeId}{pos pos':String}{aft aft':Array Edge}
  (hx:ev fr x=some (.agg rV.toArray)) (hxd:x≠.tmp d) (hd:d<n.1)
  (h:∀g w',Ext w w'→w.heap.size≤g→aK w' g Is rV→WL prog ops n Φ rest ((d,.pointer (some ⟨g,0,none⟩))::fr) w'):
  WL prog ops n Φ (⟨some d,.alloc Is,ty,pos,aft,none⟩::⟨none,.store Is (.tmp d) x,ty',pos',aft',none⟩::rest) fr w:=by
 obtain⟨i,hi,hz,hs⟩:=CH;exact WL.dH (cs:=rV) (zs:=[Value.nilFunc,.nilFunc,.nilFunc,.nilFunc]) hi hz rfl hs rfl hx hxd rfl Fb hd h
theorem EZ:∃i:TypeInfo,prog.info? TM=some i∧i.zero=some (.agg (ia (.pointer none) (.slice none 0 0) 0 0 (.slice none 0 0)).toArray)∧i.size=5:=by
 have h:(prog.info? TM).map (fun i=>(i.zero,i.size))=some (some (.agg (ia (.pointer none) (.slice none 0 0) 0 0 (.slice none 0 0)).toArray),5):=by kernel_rfl
 obtain⟨i,hi,h⟩:=Option.map_eq_some_iff.1 h;injection h with h1 h2
 exact⟨i,hi,h1,h2⟩
theorem vI{n:NN}{Φ:Exit→Fr→World→Prop}{fr:Fr}{w:World}{ops:Array Oper}{rest:List Oper}{d:Nat}{x:Operand}{ty ty':TypeId}{pos pos':String}{aft aft':Array Edge}{t:Addr}
  (hx:ev fr x=some (.agg (ia (.pointer (some t)) (.slice none 0 0) 0 0 (.slice none 0 0)).toArray)) (hxd:x≠.tmp d) (hd:d<n.1)
  (h:∀g w',Ext w w'→w.heap.size≤g→aK w' g TM (ia (.pointer (some t)) (.slice none 0 0) 0 0 (.slice none 0 0))→WL prog ops n Φ rest ((d,.pointer (some ⟨g,0,none⟩))::fr) w'):
  WL prog ops n Φ (⟨some d,.alloc TM,ty,pos,aft,none⟩::⟨none,.store TM (.tmp d) x,ty',pos',aft',none⟩::rest) fr w:=by
 obtain⟨i,hi,hz,hs⟩:=EZ;exact WL.dH (cs:=ia (.pointer (some t)) (.slice none 0 0) 0 0 (.slice none 0 0)) (zs:=ia (.pointer none) (.slice none 0 0) 0 0 (.slice none 0 0)) hi hz rfl hs rfl hx hxd rfl (by
  intro u hu;simp only [ia,List.mem_cons,List.not_mem_nil,or_false]at hu;rcases hu with rfl|rfl|rfl|rfl|rfl<;>rfl) hd h
theorem Bj(t:Addr)(w:World):(Instr.build TM [(0,Value.pointer (some t))].toArray).run prog w= .ok (.agg (ia (.pointer (some t)) (.slice none 0 0) 0 0 (.slice none 0 0)).toArray) w:=run_build w _ _ _ aG
theorem Gp:∃i:TypeInfo,prog.info? TE=some i∧i.zero=some (.agg (my ⟨0,0,[]⟩).toArray)∧i.size=3:=by
 have h:(prog.info? TE).map (fun i=>(i.zero,i.size))=some (some (.agg (my ⟨0,0,[]⟩).toArray),3):=by kernel_rfl
 obtain⟨i,hi,h⟩:=Option.map_eq_some_iff.1 h;injection h with h1 h2
 exact⟨i,hi,h1,h2⟩
theorem yM{n:NN}{Φ:Exit→Fr→World→Prop}{fr:Fr}{w:World}{ops:Array Oper}{rest:List Oper}{d:Nat}{x:Operand}{ty ty':TypeId}{pos pos':String}{aft aft':Array Edge}{v:dm}
  (hx:ev fr x=some (.agg (my v).toArray)) (hxd:x≠.tmp d) (hd:d<n.1)
  (h:∀g w',Ext w w'→w.heap.size≤g→aK w' g TE (my v)→WL prog ops n Φ rest ((d,.pointer (some ⟨g,0,none⟩))::fr) w'):
  WL prog ops n Φ (⟨some d,.alloc TE,ty,pos,aft,none⟩::⟨none,.store TE (.tmp d) x,ty',pos',aft',none⟩::rest) fr w:=by
 obtain⟨i,hi,hz,hs⟩:=Gp;exact WL.dH (cs:=my v) (zs:=my ⟨0,0,[]⟩) hi hz rfl hs rfl hx hxd rfl we hd h
theorem CD(tg rb ra:Nat)(ad:List aD)(ns:List Nn)(hG:Fu.Good (Fw.aR ns))(hn:ns.length≤400001)(b:List UInt8)(hok:hZ (bZ (Fw.aR ns)) b=0){k:Nat}{ed:dm}(hx:(cj (bZ (Fw.aR ns)) b)[k]? =some ed):
  ∃(f:FuncId) (fn:Func),ed.kind<4∧rV[ed.kind]? =some (.func (.func f) #[] #[])∧prog.funcs[f]? =some fn∧fn.body.isNone=false∧(fn.name== "runtime.NumGoroutine")=false∧∀(W:World) (g:Nat) (rv ov:Value),cH W tg rb ra ad ns→
   ew W g (.pointer (some ⟨tg,0,none⟩)) rv ov (aU (Fw.aR ns) b k).at_ (aU (Fw.aR ns) b k).kept ((bf (Fw.aR ns)).map (nm (Fw.aR ns))) (aU (Fw.aR ns) b k).out→
   Calls prog f #[.pointer (some ⟨g,0,none⟩),.agg (my ed).toArray] W (cB fun _ W'=>∃ov',ew W' g (.pointer (some ⟨tg,0,none⟩)) rv ov' (aU (Fw.aR ns) b (k+1)).at_ (aU (Fw.aR ns) b (k+1)).kept ((bf (Fw.aR ns)).map (nm (Fw.aR ns))) (aU (Fw.aR ns) b (k+1)).out∧
    aE (fun q=>q=g∨ov.ownBlock=some q) W W'∧(∀q,ov'.ownBlock=some q→ov.ownBlock=some q∨W.heap.size≤q)):=by
 obtain⟨_,hl1,hl2⟩:=z8 hok;have hsl:(bf (Fw.aR ns)).length≤1000:=by simpa [bZ]using hl1
 have hov:=sP hx;have hco:=sq hx;have hmay:=oM _ _ ed (List.mem_of_getElem? hx);have hsu:=lR hx;rcases hmay with⟨hk|hk,hpos,ht⟩|⟨hk,hn0,ht⟩
 ·have ho:ed.over=ed.n:=by unfold dm.over;rw [if_neg ai]
  refine⟨_,_,by omega,by rw [hk];rfl,func29,rfl,rfl,fun W g rv ov _ hA=>?_⟩;refine(BH g _ rv ov _ _ _ _ ed W hA ai ai).mono fun e W' h=>?_;cases e with
  |returned v=>
   obtain⟨h1,h2⟩:=h;have hs2:aU (Fw.aR ns) b (k+1)=⟨(aU (Fw.aR ns) b k).at_+ed.n,(aU (Fw.aR ns) b k).at_+ed.n,(aU (Fw.aR ns) b k).out⟩:=by rw [hsu,mn,if_pos hk]
   rw [hs2];exact⟨ov,h1,h2.mono fun q _ h=>.inl h,fun q hq=>.inl hq⟩
  |_=>exact h.elim
 ·have ho:ed.over=ed.n:=by unfold dm.over;rw [if_neg ai]
  refine⟨_,_,by omega,by rw [hk];rfl,func30,rfl,rfl,fun W g rv ov _ hA=>?_⟩;refine(Dv g _ rv ov _ _ _ _ ed W hA (by rw [List.length_map];omega) (by rw [List.length_map];omega) ai).mono fun e W' h=>?_;cases e with
  |returned v=>
   obtain⟨ov',h1,h2,h3⟩:=h;have hs2:aU (Fw.aR ns) b (k+1)=⟨(aU (Fw.aR ns) b k).at_+ed.n,(aU (Fw.aR ns) b k).kept,(aU (Fw.aR ns) b k).out++kF ((bf (Fw.aR ns)).map (nm (Fw.aR ns))) (aU (Fw.aR ns) b k).at_ ed.n⟩:=by
    rw [hsu,mn,if_neg ai,if_pos hk];simp [qb,kF,←List.map_drop,←List.map_take,Function.comp_def]
   rw [hs2];exact⟨ov',h1,h2,h3⟩
  |_=>exact h.elim
 ·have hc:ed.cost=ed.text.length:=by unfold dm.cost;rw [if_neg ai];omega
  refine⟨_,_,by omega,by rw [hk];rfl,func31,rfl,rfl,fun W g rv ov hT hA=>?_⟩;refine(ER tg rb ra ad ns g _ rv ov _ _ _ _ ed W rfl hT hG hn hA ai ai).mono fun e W' h=>?_;cases e with
  |returned v=>
   obtain⟨ov',h1,h2,h3⟩:=h;have hs2:aU (Fw.aR ns) b (k+1)=⟨(aU (Fw.aR ns) b k).at_,(aU (Fw.aR ns) b k).kept,(aU (Fw.aR ns) b k).out++fG (c4 (Fw.aR ns) ((aU (Fw.aR ns) b k).kept:Int)) (aU (Fw.aR ns) b k).out.length ed.text⟩:=by
    rw [hsu,mn,if_neg ai,if_neg ai]
   rw [hs2];exact⟨ov',h1,h2,h3⟩
  |_=>exact h.elim
set_option maxRecDepth 100000 in
set_option maxHeartbeats 2000000 in
theorem x8(g rb ra:Nat)(ad:List aD)(ns:List Nn)(b:List UInt8)(w:World)(hT:cH w g rb ra ad ns)(hG:Fu.Good (Fw.aR ns))(hn:ns.length≤400001)(hb:b.length<4611686018427387904):Calls prog 13 #[.pointer (some ⟨g,0,none⟩),.string (bs b)] w (cB fun v w'=>∃u,v= .tuple #[u,.int .i64 (hZ (bZ (Fw.aR ns)) b:Int)]∧Own w' DY 37 u (jF (tW (Fw.aR ns) b))∧(∀q,u.ownBlock=some q→w.heap.size≤q)∧Ext w w'):=by
 have hlv:(bf (Fw.aR ns)).length≤400001:=by
  have h1:=List.countP_le_length (p:=fun x:El=> !x.gone) (l:=Fw.aR ns);rw [hG.jn];rw [List.length_map]at h1;exact Nat.le_trans h1 hn
 have htl:(bZ (Fw.aR ns)).length=(bf (Fw.aR ns)).length:=by simp [bZ]
 obtain⟨er,her⟩:∃er:Nat→List Value,er=fun q=>aX (nm (Fw.aR ns) q):=⟨_,rfl⟩;have herl:∀q,(er q).length=34:=fun q=>by rw [her];exact ax _
 have hTl:=fun q (hq:Fp g rb ra ns q)=>hT.lt hq;refine q8 54 [4,5] [(0,.pointer (some ⟨g,0,none⟩)),(1,.string (bs b))] func13 rfl rfl rfl aL cz ?_;have hE:Ext w w:=aE.refl;refine CN.seq fun K1 hK1=>?_;refine CN.jD ?_;refine CW.region<|WL.val (Y.assign rfl) dP<|WL.val (Y.assign rfl) dP<|WL.nil ?_;refine hK1 _ _ _ ?_;clear hK1;refine CN.seq fun K2 hK2=>?_;refine CN.seq fun K3 hK3=>?_;refine CN.jD ?_;refine CW.region<|WL.val (Y.move rfl) dP<|WL.call func26 rfl rfl rfl (BD g rb ra ad ns _ hT hG hn) aL ?_;rintro v14 w1 hR1;obtain⟨gc,rbc,rac,nsc,rfl,_,_,_,hx1⟩:=hR1;have hz1:=hx1.size;have hE:=hE.ae hx1;refine WL.val (Y.nL rfl rfl) dP<|WL.nil ?_;refine hK3 _ _ _ ?_;clear hK3;first|refine CN.AG rfl (fun ht4=>?_) (fun ht4=>?_)|refine CN.vD rfl (fun ht4=>?_) (fun ht4=>?_)|refine CN.A0 rfl (fun ht4=>?_) (fun ht4=>?_)|refine CN.cond rfl (fun ht4=>?_) (fun ht4=>?_)
 ·refine CN.seq fun K5 hK5=>?_;refine CN.jD ?_;refine CW.region<|WL.val (Y.assign rfl) dP<|WL.val (Y.assign rfl) dP<|WL.nil ?_;refine hK5 _ _ _ ?_;clear hK5;refine CN.ret ?_;exact absurd ht4 aL
 refine CN.skip ?_;refine hK2 _ _ _ ?_;clear hK2;refine CN.seq fun K6 hK6=>?_;refine CN.jD ?_;refine CW.region<|WL.val (Y.move rfl) dP<|WL.call func28 rfl rfl rfl (Cz g rb ra ad ns _ (hT.ext hE) hG hn) aL ?_;rintro v w2 ⟨rfl,hx2⟩;have hz2:=hx2.size;have hE:=hE.ae hx2;refine WL.val (Y.move rfl) dP<|WL.call func27 rfl rfl rfl (Br (bZ (Fw.aR ns)) b _ ai hb) aL ?_;rintro v20 w3 hR3;obtain⟨lv,rfl,hO3,hf3,hx3⟩:=hR3;have hz3:=hx3.size;have hE:=hE.ae hx3;refine WL.val (Y.move rfl) dP<|WL.val (Y.extract rfl rfl) dP<|WL.val (Y.extract rfl rfl) dP<|WL.val (Y.assign rfl) dP<|WL.val (Y.assign rfl) dP<|WL.nil ?_;refine hK6 _ _ _ ?_;clear hK6;refine CN.seq fun K7 hK7=>?_;refine CN.seq fun K8 hK8=>?_;refine CN.jD ?_;refine CW.region<|WL.val (Y.move rfl) dP<|WL.val (Y.neq rfl rfl) dP<|WL.nil ?_;refine hK8 _ _ _ ?_;clear hK8;first|refine CN.AG rfl (fun ht9=>?_) (fun ht9=>?_)|refine CN.vD rfl (fun ht9=>?_) (fun ht9=>?_)|refine CN.A0 rfl (fun ht9=>?_) (fun ht9=>?_)|refine CN.cond rfl (fun ht9=>?_) (fun ht9=>?_)
 ·refine CN.seq fun K10 hK10=>?_;refine CN.jD ?_;refine CW.region<|WL.val (Y.move rfl) dP<|WL.val (Y.assign rfl) dP<|WL.val (Y.assign rfl) dP<|WL.nil ?_;refine hK10 _ _ _ ?_;clear hK10;refine CN.ret ?_;have h0:hZ (bZ (Fw.aR ns)) b≠0:=fun h=>ht9 (by rw [h];rfl);exact⟨[],rfl,by simp,(fun D hD=>by simp at hD),_,rfl,fun w_ hc=>⟨_,rfl,(by rw [tW,if_neg h0];exact Own.nil),(fun q h=>by simp [Value.ownBlock]at h),hE.step hc (fun k h=>by simp at h)⟩⟩
 refine CN.skip ?_;refine hK7 _ _ _ ?_;clear hK7;have hok:hZ (bZ (Fw.aR ns)) b=0:=by omega
 obtain⟨hmk,hl1,hl2⟩:=z8 hok;rw [hmk]at hO3;obtain⟨lA,lm,lc,rfl⟩:=hO3.lens;have hlm:=(hO3.len gS aw).1;have hll:lm≤2000:=by have:=nN (bZ (Fw.aR ns)) b;omega
 have hlt3:=hO3.lt;refine CN.seq fun K11 hK11=>?_;refine CN.jD ?_;refine CW.region<|WL.val (Y.build rfl (zv _)) dP ?_;refine k9 rfl aL dP fun g8 w4 hx4 hg8 hB8=>?_;have hlt8:=hB8.lt;have hz4:=hx4.size;have hE:=hE.ae hx4;refine WL.nil ?_;refine hK11 _ _ _ ?_;clear hK11;refine CN.seq fun K12 hK12=>?_;refine CN.jD ?_;refine CW.region<|WL.val (Y.move rfl) dP<|WL.val (Y.build rfl (Bj _ _)) dP ?_;refine vI rfl aL dP fun g9 w5 hx5 hg9 hB9=>?_;have hlt9:=hB9.lt;have hz5:=hx5.size;have hE:=hE.ae hx5;have hB8:=hB8.ext hx5;refine WL.nil ?_;refine hK12 _ _ _ ?_;clear hK12;refine CN.seq fun K13 hK13=>?_;refine CN.seq fun K14 hK14=>?_;refine CN.jD ?_;refine CW.region<|WL.val (Y.move rfl) dP<|WL.call func32 rfl rfl rfl (xx ⟨g,0,none⟩ _) aL ?_;rintro v30 w6 hR6;obtain⟨b6,rfl,hgb,hBb,hx6⟩:=hR6;have hz6:=hx6.size;have hE:=hE.ae hx6;have hB8:=hB8.ext hx6;have hB9:=hB9.ext hx6;have hT6:=hT.ext hE;have hE6:=hE;have hO6:=((hO3.ext hx4).ext hx5).ext hx6;refine WL.nil ?_;refine hK14 _ _ _ ?_;clear hK14;refine CN.block ?_;refine CN.DI (rfl) func59 rfl rfl (uU g rb ra ad ns b6 _ hT6 hG hn hBb) (fun _=>rfl) dP (fun _ h=>h.elim) (fun w1 s V hz hs i hk=>by have:=hs.1;have:=hk.1;omega) (fun s i V=>w6.heap.size+2≤s.lo∧s.lo≤s.hi∧s.hi≤V.heap.size∧∃u,aK V g9 TM (ia (.pointer (some ⟨g,0,none⟩)) u 0 0 (.slice none 0 0))∧Own V FG 34 u ((((bf (Fw.aR ns)).take i).map er).flatten)∧(∀q,u.ownBlock=some q→s.hi≤q)∧aE (fun k=>k=g9) w6 V) (fun _ _ _=>False) ?_ ?_ ?_ ?_ ?_ ?_ ?_
 ·intro w1_ s_ V hw_ hz_ hc_ hs_;exact⟨by have:=hs_.1;omega,hs_.2.1,hs_.2.2,.slice none 0 0,(hB9.ext hw_).ext hc_,Own.nil,(fun q h=>by simp [Value.ownBlock]at h),Ext.aA (hw_.ae hc_)⟩
 ·intro s_ i_ V V_ hi_ hc_;obtain⟨hlo,hlh,hhi,u,hB9,hO,hf,hC⟩:=hi_;have hzc:=hc_.size;exact⟨hlo,hlh,by omega,u,hB9.aA hc_ (fun h=>by rcases h with h|h;exact h;omega),hO.aA hc_ (fun q hq h=>by rcases h with h|h;exact h;have:=hf q hq;omega),hf,hC.trans hc_ (fun k hk h=>by rcases h with h|h;exact h.elim;exact False.elim ai)⟩
 ·intro s_ e_ V V_ hi_ hc_;exact hi_.elim
 ·intro s_ i_ V hi_;obtain⟨_,_,_,_,_,_,_,hC⟩:=hi_;exact(hT6.aA hC (fun q hq h=>by have:=hTl q hq;have h:q=g9:=h;omega)).I4 hG
 ·intro s_ i_ x_ w7 hi_ hx_ hat_ hz_;obtain⟨hlo,hlh,hhi,u,hB9,hO,hf,hC⟩:=hi_;obtain⟨q,hq,rfl⟩:∃q,(bf (Fw.aR ns))[i_]? =some q∧(nm (Fw.aR ns) q,gA (Fw.aR ns) q)=x_:=by
   rw [lI,List.getElem?_map]at hx_;exact Option.map_eq_some_iff.1 hx_
  have hil:=(List.getElem?_eq_some_iff.1 hq).1;have hil2:((bf (Fw.aR ns)).take i_).length=i_:=by rw [List.length_take];omega
  have hult:=hO.lt;obtain⟨uA,um,uc,rfl⟩:=hO.lens;have hE:Ext w7 w7:=aE.refl;refine CW.region ?_;refine jQ rfl aL dP fun g10 w8 hx8 hg10 hB10=>?_;have hlt10:=hB10.lt;have hz8:=hx8.size;have hE:=hE.ae hx8;refine WL.nil ?_;have hE_:Ext w7 w8:=hx8;refine⟨hE_,fun w9 hc_=>?_⟩;have hz9:=hc_.size;have hB9:=(hB9.ext hx8).aA hc_ cq;have hB10:=hB10.aA hc_ cq;have hO:=(hO.ext hx8).aA hc_ (fun k hk h=>by have:=hf k hk;omega);have hC9:aE (fun k=>k=g9) w6 w9:=(hC.ae hx8).trans hc_ (fun k hk h=>False.elim ai);refine CW.block<|CW.region<|WL.val (Y.fieldAddr k4 rfl) dP<|WL.val (Y.ah underlying91 rfl (wI hB9.mem) rfl) dP<|WL.val (Y.load underlying62 rfl hB10.mem (aT _) rfl) dP<|WL.st (St.buildSlice rfl (GR _)) dP fun v36 w10 hR10=>?_;obtain⟨g36,rfl,hg36,hB36,hx10⟩:=hR10;have hz10:=hx10.size;have hB9:=hB9.ext hx10;refine WL.st (St.append (m:=1) (news:=aX (nm (Fw.aR ns) q)) underlying91 underlying91 D4 rfl rfl (hO.ext hx10) (Fw.Src.one hB36 (ax _)) dN (by rw [aO herl,hil2];omega)) dP fun v37 w11 hR11=>?_;obtain⟨hO8,hc8,hf8⟩:=hR11;have hz11:=hc8.size;obtain⟨vA,vm,vc,rfl⟩:=hO8.lens;have hf8:∀k,(Value.slice vA vm vc).ownBlock=some k→s_.hi≤k:=fun k hk=>by
   rcases hf8 with h|h
   ·rw [h]at hk;exact hf k hk
   ·have:=h k hk;omega
  have hO8:Own w11 FG 34 (.slice vA vm vc) ((((bf (Fw.aR ns)).take (i_+1)).map er).flatten):=by
   rw [Go.Pl.take_succ hq,List.map_append,List.flatten_append];simpa [her]using hO8
  have hL8:aE (fun k=>k=g9∨s_.hi≤k) w9 w11:=(Ext.aA hx10).trans hc8 (fun k _ h=>.inr (hf k h));have hB9:=hB9.aA hc8 (fun h=>by have:=hf _ h;omega);refine WL.val (Y.fieldAddr k4 rfl) dP<|WL.store (g:=g9) (pre:=[(.pointer (some ⟨g,0,none⟩))]) (old:=[.slice uA um uc]) (post:=[.int .i64 ((0:Nat):Int),.int .i64 ((0:Nat):Int),.slice none 0 0]) (new:=[.slice vA vm vc]) rfl rfl rfl rfl aG (by simpa [ia]using hB9) j0 (dd rfl) (fun w12 hc12 hB12_=>?_);have hz12:=hc12.size;have hB9:aK w12 g9 TM (ia (.pointer (some ⟨g,0,none⟩)) (.slice vA vm vc) 0 0 (.slice none 0 0)):=by simpa [ia]using hB12_
  have hO9:=hO8.aA hc12 (fun k hk h=>by have:=hf8 k hk;have h:k=g9:=h;omega);have hL12:aE (fun k=>k=g9∨s_.hi≤k) w9 w12:=hL8.trans hc12 (fun k _ h=>.inl h);have hC12:aE (fun k=>k=g9) w6 w12:=hC9.trans hL12 (fun k hk h=>by rcases h with h|h;exact h;exact False.elim ai);refine WL.nil ?_;exact⟨⟨hlo,hlh,by omega,_,hB9,hO9,hf8,hC12⟩,hL12.mono fun k _ h=>⟨fun hk=>by have h1:=hk.1;have h2:=hk.2;omega,by omega,by omega⟩⟩
 ·intro s_ w13 hi_ hD_ hfin_;obtain⟨hlo,hlh,hhi,uR,hB9,hO,hf,hC⟩:=hi_;have hxl:(lI (Fw.aR ns) s_).length=(bf (Fw.aR ns)).length:=by simp only [lI,List.length_map]
  rw [hxl,List.take_of_length_le (Nat.le_refl _)]at hO;have hzC:=hC.size;have hE:=hE6.step hC (fun k h=>by have h:k=g9:=h;omega);have hB8:=hB8.aA hC (fun h=>by have h:g8=g9:=h;omega);have hT13:=hT6.aA hC (fun q hq h=>by have:=hTl q hq;have h:q=g9:=h;omega);have hO13:=hO6.aA hC (fun q hq h=>by have:=hlt3 q hq;have h:q=g9:=h;omega);have hA13:ew w13 g9 (.pointer (some ⟨g,0,none⟩)) uR (.slice none 0 0) 0 0 ((bf (Fw.aR ns)).map (nm (Fw.aR ns))) []:=⟨hB9,by rw [her]at hO;simpa [List.map_map,Function.comp_def]using hO,Own.nil⟩;refine hK13 _ _ _ ?_;clear hK13;refine CN.seq fun K15 hK15=>?_;refine CN.seq fun K16 hK16=>?_;refine CN.jD ?_;refine CW.region<|WL.val (Y.move rfl) dP<|WL.val (Y.aq underlying83 rfl) dP<|WL.val (Y.move rfl) dP<|WL.nil ?_;refine hK16 _ _ _ ?_;clear hK16;refine CN.block ?_;refine CN.jD ?_;refine CW.loop (X:=Nat×Value) (fun x=>[(8,.pointer (some ⟨g8,0,none⟩)),(9,.pointer (some ⟨g9,0,none⟩)),(39,.slice lA lm lc),(40,.int .i64 (lm:Int)),(41,.int .i64 (x.1:Int))]) (fun x w0=>x.1≤lm∧ew w0 g9 (.pointer (some ⟨g,0,none⟩)) uR x.2 (aU (Fw.aR ns) b x.1).at_ (aU (Fw.aR ns) b x.1).kept ((bf (Fw.aR ns)).map (nm (Fw.aR ns))) (aU (Fw.aR ns) b x.1).out∧aE (fun k=>k=g9) w13 w0∧(∀q,x.2.ownBlock=some q→w13.heap.size≤q)) (fun x=>lm-x.1) (0,.slice none 0 0) Fr.ok ⟨Nat.zero_le _,(by simpa [aU]using hA13),aE.refl,fun q h=>by simp [Value.ownBlock]at h⟩ ?_;intro x w14 hl14;obtain⟨i,ov2⟩:=x;obtain⟨hi,hA,hC14,hf14⟩:=hl14;dsimp only at hi hA hf14⊢;have hzC14:=hC14.size;have hE:=hE.step hC14 (fun k h=>by have h:k=g9:=h;omega);have hB8:=hB8.aA hC14 (fun h=>by have h:g8=g9:=h;omega);have hB9:=hA.bY;have hl14':=hO13.aA hC14 (fun q hq h=>by have:=hlt3 q hq;have h:q=g9:=h;omega);have hT14:=hT13.aA hC14 (fun q hq h=>by have:=hTl q hq;have h:q=g9:=h;omega);refine CW.sr fun K17 hK17=>WL.val (Y.lss rfl rfl) dP<|WL.nil (hK17 _ _ ?_);clear hK17;refine CW.seq fun K18 hK18=>?_;refine bp ?_ ?_<;>intro ht19
  ·refine CW.skip ?_;refine hK18 _ _ ?_;clear hK18;refine CW.seq fun K20 hK20=>?_;obtain⟨ed,hed⟩:∃ed,(cj (bZ (Fw.aR ns)) b)[i]? =some ed:=⟨_,List.getElem?_eq_getElem ai⟩;obtain⟨f,fn,hk4,hfv,hfn,hbn,hnn,hcall⟩:=CD g rb ra ad ns hG hn b hok hed;obtain⟨la,hla,hme⟩:=(hl14'.sl gS aw).get hed;subst hla;refine CW.block<|CW.sr fun K21 hK21=>WL.val (Y.af underlying83 rfl rfl b4 ai) dP<|WL.val (Y.load underlying98 rfl hme (tB _) rfl) dP ?_;refine yM rfl aL dP fun g12 w15 hx15 hg12 hB12=>?_;have hlt12:=hB12.lt;have hz15:=hx15.size;have hE:=hE.ae hx15;have hB8:=hB8.ext hx15;have hB9:=hB9.ext hx15;refine WL.nil (hK21 _ _ ?_);clear hK21;refine CW.held (fun wq=>aE (fun k=>k=g9∨ov2.ownBlock=some k) w15 wq) aG 6 rfl fun w16 hx16=>?_;have hS:aE (fun k=>k=g9∨ov2.ownBlock=some k) w15 w16:=hx16.aA;have hz16:=hx16.size;have hov:=hA.ops.lt;have hn12:¬(g12=g9∨ov2.ownBlock=some g12):=fun h=>by
    rcases h with h|h
    ·omega
    ·have:=hov _ h;omega
   have hn8:¬(g8=g9∨ov2.ownBlock=some g8):=fun h=>by
    rcases h with h|h
    ·omega
    ·have:=hf14 _ h;omega
   have hcell:∀wq,aE (fun k=>k=g9∨ov2.ownBlock=some k) w15 wq→wq.cell? (Addr.add ⟨g8,0,none⟩ (ed.kind*1))=some (.func (.func f) #[] #[]):=fun wq hq=>by rw [Nat.mul_one];exact(hB8.aA hq hn8).mem.cell _ hfv
   refine RH.take 0 (fun _ _ _ _ h=>h) aG hS rfl aG aG (fun wq hq=>Y.fieldAddr kJ rfl) dP<|RH.take 1 (fun _ _ _ _ h=>h) aG hS rfl aG aG (fun wq hq=>Y.ah underlying3 rfl (hB12.aA hq hn12).mem.o6 rfl) dP<|RH.take 2 (fun _ _ _ _ h=>h) aG hS rfl aG aG (fun wq hq=>Y.aW underlying90 rfl rfl kS ai (i:=ed.kind)) dP<|RH.take 3 (fun _ _ _ _ h=>h) aG hS rfl aG aG (fun wq hq=>Y.ah Kq rfl (hcell _ hq) rfl) dP<|RH.take 4 (fun _ _ _ _ h=>h) aG hS rfl aG aG (fun wq hq=>Y.load underlying98 rfl (hB12.aA hq hn12).mem (tB _) rfl) dP<|RH.one 5 aG ?_;refine RS.kp (f:=f) (fn:=fn) (cap:=[]) rfl rfl hfn hbn hnn rfl (hcall _ g9 uR ov2 (hT14.ext (hx15.ae hx16)) (hA.ext (hx15.ae hx16))) dP fun v50 w17 hR17=>?_;obtain⟨ov3,hA3,hC3,hf3⟩:=hR17;have hS:=hS.trans hC3 (fun k _ h=>h);refine⟨hS,?_⟩;refine RH.done aG ?_;have hCr:aE (fun k=>k=g9) w13 w17:=hC14.trans ((Ext.aA (S:=fun k=>k=g9∨ov2.ownBlock=some k) hx15).trans hS (fun k _ h=>h)) (fun k hk h=>by
    rcases h with h|h
    ·exact h
    ·have:=hf14 _ h;exact False.elim ai)
   have hfr:∀q,ov3.ownBlock=some q→w13.heap.size≤q:=fun q hq=>by
    rcases hf3 q hq with h|h
    ·exact hf14 q h
    ·omega
   refine hK20 _ _ ?_;clear hK20;refine CW.region<|WL.val (Y.add rfl rfl bB) dP<|WL.val (Y.move rfl) dP<|WL.nil ?_;exact⟨(i+1,ov3),by show lm-(i+1)<lm-i;omega,Fr.ok,by show i+1≤lm;omega,hA3,hCr,hfr⟩
  refine CW.exit ?_;refine hK15 _ _ _ ?_;clear hK15;refine CN.seq fun K22 hK22=>?_;refine CN.jD ?_;refine CW.region<|WL.val (Y.fieldAddr dY rfl) dP<|WL.val (Y.ah underlying27 rfl (Bx hB9.mem) rfl) dP<|WL.val (Y.assign rfl) dP<|WL.val (Y.assign rfl) dP<|WL.nil ?_;refine hK22 _ _ _ ?_;clear hK22;refine CN.ret ?_;obtain rfl:i=lm:=by omega
  have hend:(aU (Fw.aR ns) b i).out=Al (Fw.aR ns) b:=by rw [←hlm];exact uZ
  rw [hend]at hA;exact⟨[w6.heap.size],rfl,by simp,(fun D hD=>by simp at hD;subst hD;exact FP hD_ hC14 (fun h=>by have h:w6.heap.size=g9:=h;omega)),_,rfl,fun w_ hc=>⟨ov2,(by rw [hok];rfl),(by rw [tW,if_pos hok];exact hA.ops.aA hc (fun k hk h=>by simp at h;have:=hf14 k hk;omega)),(fun q hq=>by have:=hf14 q hq;omega),hE.step hc (fun k h=>by simp at h;omega)⟩⟩
 ·intro s_ e_ w18 hi_ hD_ hfin_ he_;exact hi_.elim
end Go.Proofs.YtmehkigmnpjcjaaGreatDoor
namespace Go.Proofs.YtmehkigmnpjcjaaGreatDoor
open Go.RowKit Go.Fw Go.Pl Go.Sort Go.Fu Go.Proofs.Tryz
def dA:aD:=⟨[103,39,190,109,200,245,252,100,35,38,142,176,228,9,156,198,222,165,110,116,50,72,108,164,4,134,240,226,20,255,95,253],rfl⟩
def oA:List ct:=[⟨1,false,aF.zero,104⟩,⟨1,false,⟨true,aD.zero,1⟩,105⟩]
def oB:List ct:=[⟨1,false,⟨false,dA,2⟩,33⟩]
end Go.Proofs.YtmehkigmnpjcjaaGreatDoor
namespace Go.Proofs.YtmehkigmnpjcjaaGreatDoor
open Go.RowKit Go.Fw Go.Pl Go.Sort Go.Fu Go.Proofs.Tryz
theorem Hs{a b c d e:Value}:∀t v,Fr.get [(0,a),(1,b),(2,c),(3,d),(4,e)] t=some v→[a,b,c,d,e][t]? =some v:=by
 intro t v h;match t,h with
 |0,h=>exact h
 |1,h=>exact h
 |2,h=>exact h
 |3,h=>exact h
 |4,h=>exact h
 |t+5,h=>exact h
def Hg(w w':World)(v:Value)(P:List bx)(ids:List aD)(au no:ByteArray)(b:List UInt8):Prop:=∃pv ov,v= .tuple #[.agg (dt pv (wy P ids au no b).author (wy P ids au no b).note ov).toArray,.int .i64 (zh P ids au no b)]∧Fw.Own w' 42 32 pv (((wy P ids au no b).parents.map aN).flatten)∧Fw.Own w' 64 37 ov (((wy P ids au no b).ops.map eM).flatten)∧(∀k,pv.ownBlock=some k→w.heap.size≤k)∧(∀k,ov.ownBlock=some k→w.heap.size≤k)∧Ext w w'
theorem mB{w w':World}{P:List bx}{ids:List aD}{au no:ByteArray}{b:List UInt8}{e:Int}(h:zh P ids au no b=e)(h0:e≠0)(hx:Ext w w'):Hg w w' (.tuple #[.agg eZ.toArray,.int .i64 e]) P ids au no b:=by
 have hr:wy P ids au no b=HP:=by rw [wy,if_neg (by rw [h];exact h0)]
 refine⟨.slice none 0 0,.slice none 0 0,by rw [hr,h];rfl,by rw [hr];exact Own.nil,by rw [hr];exact Own.nil,fun k h=>by simp [Value.ownBlock]at h,fun k h=>by simp [Value.ownBlock]at h,hx⟩
theorem As{w w':World}{P:List bx}{ids:List aD}{au no:ByteArray}{b:List UInt8}{pv ov:Value}(h:zh P ids au no b=0)(hp:Fw.Own w' 42 32 pv (((C0 P ids []).map aN).flatten))(ho:Fw.Own w' 64 37 ov (((Al (Hq P ids).e b).map eM).flatten))(h1:∀k,pv.ownBlock=some k→w.heap.size≤k)(h2:∀k,ov.ownBlock=some k→w.heap.size≤k)(hx:Ext w w'):Hg w w' (.tuple #[.agg (dt pv au no ov).toArray,.int .i64 0]) P ids au no b:=by
 have hr:wy P ids au no b=Kg P ids au no b:=by rw [wy,if_pos h]
 refine⟨pv,ov,by rw [hr,h];rfl,by rw [hr];exact hp,by rw [hr];exact ho,h1,h2,hx⟩
theorem r5(A:Option Addr)(m c:Nat)(au no:ByteArray)(B:Option Addr)(n d:Nat)(w:World):(Instr.build 29 [(0,Value.slice A m c),(1,Value.string au),(2,Value.string no),(3,Value.slice B n d)].toArray).run prog w= .ok (.agg (dt (.slice A m c) au no (.slice B n d)).toArray) w:=run_build w _ _ _ aG
set_option maxRecDepth 100000 in
set_option maxHeartbeats 2000000 in
theorem xa(u v0:Value)(l:List jB)(ids:List aD)(au no:ByteArray)(b:List UInt8)(w:World)(hl:ua w u l)(hd:Sl w aN 32 v0 ids)(hdl:ids.length≤1048576)(hau:au.size≤maxLen)(hno:no.size≤maxLen)(hb:b.length<4611686018427387904)(hK:Mem w ⟨1,0,none⟩ (dF eF)):Calls prog 5 #[u,v0,.string au,.string no,.string (bs b)] w (cB fun v w'=>Hg w w' v (bN l) ids au no b):=by
 obtain⟨ci_,hci,hcz,hcs⟩:=gQ;refine dV 62 10 4 [11] [(0,u),(1,v0),(2,.string au),(3,.string no),(4,.string (bs b))] func5 rfl rfl rfl underlying29 rfl aG aL Hs ?_;have hE:Ext w w:=aE.refl;refine CW.sr fun K1 hK1=>WL.alloc (hci) (hcz) rfl aw fun g10 w1 hx1 hg10 hB10=>?_;have hlt10:=hB10.lt;have hz1:=hx1.size;have hE:=hE.ae hx1;refine WL.a rfl<|WL.nil (hK1 _ _ ?_);clear hK1;refine CW.sr fun K2 hK2=>WL.m rfl<|WL.m rfl<|WL.call func10 rfl rfl rfl (zJ _ _ _ l ids [] _ (hl.ext hE) (hd.ext hE) Sl.nil (by simp;omega) (hK.ext hE)) aL ?_;rintro v19 w2 hR2;obtain⟨hv2,rfl,hO2,hfu2,hx2⟩:=hR2;have hz2:=hx2.size;have hE:=hE.ae hx2;have hB10:aK w2 g10 29 eZ:=hB10.ext hx2;obtain⟨A2,n2,c2,rfl⟩:=hO2.lens;refine WL.m rfl<|WL.v (Y.extract rfl rfl)<|WL.v (Y.extract rfl rfl)<|WL.a rfl<|WL.a rfl<|WL.nil (hK2 _ _ ?_);clear hK2;refine CW.seq fun K3 hK3=>?_;refine CW.block<|CW.sr fun K4 hK4=>WL.m rfl<|WL.v (Y.neq rfl rfl)<|WL.a rfl<|WL.nil (hK4 _ _ ?_);clear hK4;refine bp ?_ ?_<;>intro ht5
 ·refine CW.sr fun K6 hK6=>WL.v (Y.eQ (cF _))<|WL.m rfl<|WL.store (g:=g10) (pre:=[]) (old:=eZ) (post:=[]) (new:=eZ) rfl rfl rfl rfl (bw _ _ _ _) (by simpa using hB10) j0 (im) (fun w3 hc3 hB3_=>?_);have hz3:=hc3.size;have hE:=hE.step hc3 (fun k h=>by omega);have hB10:aK w3 g10 29 eZ:=by simpa using hB3_
  refine WL.a rfl<|WL.nil (hK6 _ _ ?_);clear hK6;refine CW.ret ?_;exact⟨_,_,_,rfl,hB10.mem,rfl,rfl,mB (by rw [zh,if_pos (by assumption)]) (by assumption) hE⟩
 refine CW.seq fun K7 hK7=>?_;have hm0:rl (bN l) ids []=0:=Decidable.not_not.1 (by assumption);refine CW.region<|WL.m rfl<|WL.call func11 rfl rfl rfl (wR au _ hau) aL ?_;rintro v w4 ⟨rfl,hx4⟩;have hz4:=hx4.size;have hE:=hE.ae hx4;have hB10:=hB10.ext hx4;refine WL.v (Y.not rfl)<|WL.a rfl<|WL.nil (hK7 _ _ ?_);clear hK7;refine bp ?_ ?_<;>intro ht8
 ·refine CW.sr fun K9 hK9=>WL.v (Y.eQ (cF _))<|WL.store (g:=g10) (pre:=[]) (old:=eZ) (post:=[]) (new:=eZ) rfl rfl rfl rfl (bw _ _ _ _) (by simpa using hB10) j0 (im) (fun w5 hc5 hB5_=>?_);have hz5:=hc5.size;have hE:=hE.step hc5 (fun k h=>by omega);have hB10:aK w5 g10 29 eZ:=by simpa using hB5_
  refine WL.a rfl<|WL.nil (hK9 _ _ ?_);clear hK9;refine CW.ret ?_;exact⟨_,_,_,rfl,hB10.mem,rfl,rfl,mB (by rw [zh,if_neg (fun h=>h hm0),if_pos (by simp_all)]) aw hE⟩
 refine CW.seq fun K10 hK10=>?_;have hn1:¬mi au.toList=false:=by simp_all
 refine CW.region<|WL.m rfl<|WL.v (Y.aM underlying9 rfl)<|WL.v (Y.gtr rfl rfl)<|WL.a rfl<|WL.nil (hK10 _ _ ?_);clear hK10;refine bp ?_ ?_<;>intro ht11
 ·refine CW.sr fun K12 hK12=>WL.v (Y.eQ (cF _))<|WL.store (g:=g10) (pre:=[]) (old:=eZ) (post:=[]) (new:=eZ) rfl rfl rfl rfl (bw _ _ _ _) (by simpa using hB10) j0 (im) (fun w6 hc6 hB6_=>?_);have hz6:=hc6.size;have hE:=hE.step hc6 (fun k h=>by omega);have hB10:aK w6 g10 29 eZ:=by simpa using hB6_
  refine WL.a rfl<|WL.nil (hK12 _ _ ?_);clear hK12;refine CW.ret ?_;exact⟨_,_,_,rfl,hB10.mem,rfl,rfl,mB (by rw [zh,if_neg (fun h=>h hm0),if_neg hn1,if_pos ai]) aw hE⟩
 refine CW.skip ?_;refine hK3 _ _ ?_;clear hK3;refine CW.seq fun K13 hK13=>?_;have hn2:¬200<no.size:=by omega
 refine CW.region<|WL.m rfl<|WL.m rfl<|WL.call func12 rfl rfl rfl (Cg _ _ l ids _ (hl.ext hE) (hd.ext hE) (hK.ext hE)) aL ?_;rintro v40 w7 hR7;obtain⟨p7,rfl,hbad7,hgood7,hx7⟩:=hR7;have hz7:=hx7.size;have hE:=hE.ae hx7;have hB10:=hB10.ext hx7;have hO2:=(hO2.ext hx4).ext hx7;obtain⟨g,rb,ra,ns,rfl,hT⟩:=hgood7 (sN hm0);rw [sN hm0];obtain⟨hp_,hk_,_⟩:=kW.1 (sN hm0);have htr:=vw hk_ hp_ ids;have hG:Fu.Good (Fw.aR ns):=by rw [hT.aR];exact htr.eX
 have hn_:ns.length≤400001:=by rw [←hT.len];exact htr.G8
 refine WL.m rfl<|WL.v (Y.extract rfl rfl)<|WL.v (Y.extract rfl rfl)<|WL.a rfl<|WL.a rfl<|WL.nil (hK13 _ _ ?_);clear hK13;refine CW.seq fun K14 hK14=>CW.sr fun K15 hK15=>WL.m rfl<|WL.v (Y.neq rfl rfl)<|WL.nil (hK15 _ _ ?_);clear hK15;refine bp ?_ ?_<;>intro ht16
 ·refine CW.sr fun K17 hK17=>WL.v (Y.eQ (cF _))<|WL.m rfl<|WL.store (g:=g10) (pre:=[]) (old:=eZ) (post:=[]) (new:=eZ) rfl rfl rfl rfl (bw _ _ _ _) (by simpa using hB10) j0 (im) (fun w8 hc8 hB8_=>?_);have hz8:=hc8.size;have hE:=hE.step hc8 (fun k h=>by omega);have hB10:aK w8 g10 29 eZ:=by simpa using hB8_
  refine WL.a rfl<|WL.nil (hK17 _ _ ?_);clear hK17;refine CW.ret ?_;exact absurd rfl (by assumption)
 refine CW.skip ?_;refine hK14 _ _ ?_;clear hK14;refine CW.sr fun K18 hK18=>WL.m rfl<|WL.m rfl<|WL.call func13 rfl rfl rfl (x8 g rb ra _ ns b _ hT.ft hG hn_ hb) aL ?_;rintro v50 w9 hR9;obtain⟨ov,rfl,hO9,hf9,hx9⟩:=hR9;have hz9:=hx9.size;have hE:=hE.ae hx9;have hB10:=hB10.ext hx9;have hO2:=hO2.ext hx9;have hte:bZ (Fw.aR ns)=C3 (bN l) ids:=by rw [hT.aR,Fh hm0]
 rw [tW,hte,hT.aR]at hO9;rw [hte];obtain⟨A9,n9,c9,rfl⟩:=hO9.lens;refine WL.m rfl<|WL.v (Y.extract rfl rfl)<|WL.v (Y.extract rfl rfl)<|WL.a rfl<|WL.a rfl<|WL.nil (hK18 _ _ ?_);clear hK18;refine CW.seq fun K19 hK19=>CW.sr fun K20 hK20=>WL.m rfl<|WL.v (Y.neq rfl rfl)<|WL.nil (hK20 _ _ ?_);clear hK20;refine bp ?_ ?_<;>intro ht21
 ·refine CW.sr fun K22 hK22=>WL.v (Y.eQ (cF _))<|WL.m rfl<|WL.store (g:=g10) (pre:=[]) (old:=eZ) (post:=[]) (new:=eZ) rfl rfl rfl rfl (bw _ _ _ _) (by simpa using hB10) j0 (im) (fun w10 hc10 hB10_=>?_);have hz10:=hc10.size;have hE:=hE.step hc10 (fun k h=>by omega);have hB10:aK w10 g10 29 eZ:=by simpa using hB10_
  refine WL.a rfl<|WL.nil (hK22 _ _ ?_);clear hK22;refine CW.ret ?_;exact⟨_,_,_,rfl,hB10.mem,rfl,rfl,mB (by rw [zh,if_neg (fun h=>h hm0),if_neg hn1,if_neg hn2]) (by assumption) hE⟩
 refine CW.skip ?_;refine hK19 _ _ ?_;clear hK19;refine CW.sr fun K23 hK23=>WL.m rfl<|WL.m rfl<|WL.m rfl<|WL.m rfl<|WL.v (Y.build rfl (r5 _ _ _ _ _ _ _ _ _))<|WL.store (g:=g10) (pre:=[]) (old:=eZ) (post:=[]) (new:=dt (.slice A2 n2 c2) au no (.slice A9 n9 c9)) rfl rfl rfl rfl (bw _ _ _ _) (by simpa using hB10) j0 (FT rfl rfl rfl rfl) (fun w11 hc11 hB11_=>?_);have hz11:=hc11.size;have hE:=hE.step hc11 (fun k h=>by omega);have hB10:aK w11 g10 29 (dt (.slice A2 n2 c2) au no (.slice A9 n9 c9)):=by simpa using hB11_
 refine WL.a rfl<|WL.nil (hK23 _ _ ?_);clear hK23;refine CW.ret ?_;have he0:hZ (C3 (bN l) ids) b=0:=by omega
 rw [if_pos he0]at hO9;exact⟨_,_,_,rfl,hB10.mem,rfl,rfl,As (by rw [zh,if_neg (fun h=>h hm0),if_neg hn1,if_neg hn2,he0];rfl) (hO2.aA hc11 (fun k hk h=>by have:=hfu2 k hk;omega)) (hO9.aA hc11 (fun k hk h=>by have:=hf9 k hk;omega)) (fun k hk=>by have:=hfu2 k hk;omega) (fun k hk=>by have:=hf9 k hk;omega) hE⟩
end Go.Proofs.YtmehkigmnpjcjaaGreatDoor
namespace Go.Pl
open Go.Fw
def tV(x:ct):List UInt8:=if x.at_.own=true then jL x.at_.n else if cM x.at_=true then []else x.at_.c.1++jL x.at_.n
theorem Bf(x:ct):wx x=jL (fp x)++tV x++(if x.kind=1 then [x.byte]else []):=by
 unfold wx tV;by_cases a:x.at_.own=true<;>by_cases b:cM x.at_=true<;>simp [a,b]
theorem tf{r:aF}(h:fK r=true):(bj r=1∧r.own=true)∨(bj r=2∧r.own=false∧cM r=false)∨(bj r=0∧r.own=false∧cM r=true):=by
 have h0:=Kh r;have h1:=I8 r;have h3:=Kb r;have hr:=wK r;by_cases ho:r.own=true
 ·exact .inl ⟨h1.2 ⟨ho,h⟩,ho⟩
 ·have ho':r.own=false:=by simpa using ho
  by_cases hb:cM r=true
  ·exact .inr (.inr ⟨h0.2 hb,ho',hb⟩)
  ·refine .inr (.inl ⟨?_,ho',by simpa using hb⟩);have n0:bj r≠0:=fun e=>hb (h0.1 e);have n3:bj r≠3:=fun e=>by rw [h3.1 e]at h;cases h
   simp only [bj,ho',Bool.false_eq_true,if_false]at n0 n3⊢;split
   ·rfl
   ·rename_i h5;rw [if_neg h5]at n0 n3;split at n0
    ·exact absurd rfl n0
    ·rename_i h6;rw [if_neg h6]at n3;exact absurd rfl n3
theorem Ks{r:aF}(h1:bj r=1):r.own=true:=((I8 r).1 h1).1
theorem Kn{r:aF}(h:fK r=true)(h1:bj r=2):r.own=false∧cM r=false:=by
 rcases tf h with h|h|h
 ·omega
 ·exact h.2
 ·omega
theorem Ku{r:aF}(h:fK r=true)(h1:¬bj r=1)(h2:¬bj r=2):r.own=false∧cM r=true:=by
 rcases tf h with h|h|h
 ·exact absurd h.1 h1
 ·exact absurd h.1 h2
 ·exact h.2
theorem FD{x:ct}(h:x.at_.n<9223372036854775808):(tV x).length≤41:=by
 have h2:=ke h;have h3:=x.at_.c.2;unfold tV;split
 ·omega
 ·split
  ·simp
  ·rw [List.length_append];omega
end Go.Pl
namespace Go.Proofs.YtmehkigmnpjcjaaGreatDoor
open Go.RowKit Go.Fw Go.Pl Go.Proofs.Tryz
theorem oV(n:Nat)(w:World)(hn:n<9223372036854775808):Calls prog 103 #[.int .i64 (n:Int)] w (cB fun v w'=>v= .string (bs (vi n))∧Ext w w'):=by
 revert hn;revert w;refine Nat.strongRecOn n ?_;clear n;intro n ih w hn;refine ar 19 [2] [(0,.int .i64 (n:Int))] func103 rfl rfl rfl aL du ?_;have hE:Ext w w:=aE.refl;refine CW.sr fun K1 hK1=>WL.a rfl<|WL.nil (hK1 _ _ ?_);clear hK1;refine CW.seq fun K2 hK2=>CW.sr fun K3 hK3=>WL.m rfl<|WL.v (Y.lss rfl rfl)<|WL.nil (hK3 _ _ ?_);clear hK3;refine bp ?_ ?_<;>intro ht4
 ·refine CW.sr fun K5 hK5=>WL.m rfl<|WL.v (Y.de underlying3 underlying5 rfl)<|WL.st (St.buildSlice rfl (Bg _)) aw fun v7 w1 hR1=>?_;obtain⟨g,rfl,hg,hB,hx⟩:=hR1;rw [qR]at hB;refine WL.v (Y.dy underlying142 underlying5 underlying9 rfl (l:=[UInt8.ofNat n]) rfl (fun _=>⟨_,rfl,hB.mem⟩) (fun h=>by cases h))<|WL.a rfl<|WL.nil (hK5 _ _ ?_);clear hK5;refine CW.ret ⟨_,rfl,?_⟩;exact⟨by rw [AJ ai],hE.ae hx⟩
 refine CW.skip ?_;refine hK2 _ _ ?_;clear hK2;refine CW.seq fun K6 hK6=>?_;refine CW.held (fun wq=>Ext w wq) aG 11 rfl fun w2 hS=>RH.tk 0 hS rfl (fun wq hq=>Y.move rfl)<|RH.tk 1 hS rfl (fun wq hq=>Y.Cn (q:=128) rfl rfl aw)<|RH.tk 2 hS rfl (fun wq hq=>Y.add rfl rfl bB)<|RH.tk 3 hS rfl (fun wq hq=>Y.de underlying3 underlying5 rfl)<|RH.tk 6 hS rfl (fun wq hq=>Y.move rfl)<|RH.tk 7 hS rfl (fun wq hq=>Y.Ji (q:=128) rfl rfl aw)<|RH.two 4 8 aG ?_ ?_
 ·refine RS.st rfl (St.buildSlice rfl (Bg _)) aw fun v13 w3 hR3=>?_;obtain⟨g,rfl,hg,hB,hx⟩:=hR3;rw [show((n % 128:Nat):Int)+128=((n % 128+128:Nat):Int)by omega,qR]at hB;have hS:=hS.ae hx;refine⟨hS,?_⟩;refine RH.two 5 8 aG ?_ ?_
  ·refine RS.val rfl (Y.dy underlying142 underlying5 underlying9 rfl (l:=[UInt8.ofNat (n % 128+128)]) rfl (fun _=>⟨_,rfl,hB.mem⟩) (fun h=>by cases h)) aw ⟨hS,?_⟩;refine RH.one 8 aG ?_;refine RS.call rfl (fun _ _ h=>by cases h) func103 rfl rfl rfl (ih (n/128) ai _ ai) aw fun v17 w4 hR4=>?_;obtain⟨rfl,hy⟩:=hR4;have hS:=hS.ae hy;refine⟨hS,?_⟩;refine RH.tk 9 hS rfl (fun wq hq=>Y.n4 rfl rfl (by rw [bT,bT];have:=dS (n:=n/128) ai;simp only [List.length_cons,List.length_nil];omega))<|RH.tk 10 hS rfl (fun wq hq=>Y.assign rfl)<|RH.done aG ?_;have hx5:=hS;have hz5:=hx5.size;have hE:=hE.ae hx5;refine hK6 _ _ ?_;clear hK6;refine CW.ret ⟨_,rfl,?_⟩;exact⟨by rw [dw,uQ (n:=n) ai];rfl,hE⟩
  ·refine RS.call rfl (fun _ _ h=>by cases h) func103 rfl rfl rfl (ih (n/128) ai _ ai) aw fun v17 w6 hR6=>?_;obtain⟨rfl,hy⟩:=hR6;have hS:=hS.ae hy;refine⟨hS,?_⟩;refine RH.one 5 aG ?_;refine RS.val rfl (Y.dy underlying142 underlying5 underlying9 rfl (l:=[UInt8.ofNat (n % 128+128)]) rfl (fun _=>⟨_,rfl,(hB.ext hy).mem⟩) (fun h=>by cases h)) aw ⟨hS,?_⟩;refine RH.tk 9 hS rfl (fun wq hq=>Y.n4 rfl rfl (by rw [bT,bT];have:=dS (n:=n/128) ai;simp only [List.length_cons,List.length_nil];omega))<|RH.tk 10 hS rfl (fun wq hq=>Y.assign rfl)<|RH.done aG ?_;have hx7:=hS;have hz7:=hx7.size;have hE:=hE.ae hx7;refine hK6 _ _ ?_;clear hK6;refine CW.ret ⟨_,rfl,?_⟩;exact⟨by rw [dw,uQ (n:=n) ai];rfl,hE⟩
 ·refine RS.call rfl (fun _ _ h=>by cases h) func103 rfl rfl rfl (ih (n/128) ai _ ai) aw fun v17 w8 hR8=>?_;obtain⟨rfl,hy⟩:=hR8;have hS:=hS.ae hy;refine⟨hS,?_⟩;refine RH.one 4 aG ?_;refine RS.st rfl (St.buildSlice rfl (Bg _)) aw fun v13 w9 hR9=>?_;obtain⟨g,rfl,hg,hB,hx⟩:=hR9;rw [show((n % 128:Nat):Int)+128=((n % 128+128:Nat):Int)by omega,qR]at hB;have hS:=hS.ae hx;refine⟨hS,?_⟩;refine RH.one 5 aG ?_;refine RS.val rfl (Y.dy underlying142 underlying5 underlying9 rfl (l:=[UInt8.ofNat (n % 128+128)]) rfl (fun _=>⟨_,rfl,hB.mem⟩) (fun h=>by cases h)) aw ⟨hS,?_⟩;refine RH.tk 9 hS rfl (fun wq hq=>Y.n4 rfl rfl (by rw [bT,bT];have:=dS (n:=n/128) ai;simp only [List.length_cons,List.length_nil];omega))<|RH.tk 10 hS rfl (fun wq hq=>Y.assign rfl)<|RH.done aG ?_;have hx10:=hS;have hz10:=hx10.size;have hE:=hE.ae hx10;refine hK6 _ _ ?_;clear hK6;refine CW.ret ⟨_,rfl,?_⟩;exact⟨by rw [dw,uQ (n:=n) ai];rfl,hE⟩
theorem An(i:Int)(w:World)(h0:0≤i)(hn:i<9223372036854775808):Calls prog 103 #[.int .i64 i] w (cB fun v w'=>v= .string (bs (jL i))∧Ext w w'):=by
 obtain⟨n,rfl⟩:∃n:Nat,i=(n:Int):=⟨i.toNat,by omega⟩;rw [s9];exact oV n w ai
theorem uq(s:ByteArray)(w:World)(hn:s.size≤140737488351232):Calls prog 105 #[.string s] w (cB fun v w'=>v= .string (bs (gL s.toList))∧Ext w w'):=by
 refine ar 8 [2] [(0,.string s)] func105 rfl rfl rfl aL du ?_;have hE:Ext w w:=aE.refl;refine CW.sr fun K1 hK1=>WL.a rfl<|WL.nil (hK1 _ _ ?_);clear hK1;refine CW.sr fun K2 hK2=>WL.m rfl<|WL.v (Y.aM underlying9 rfl)<|WL.call func103 rfl rfl rfl (oV _ _ ai) aL ?_;rintro v w1 ⟨rfl,hx1⟩;have hz1:=hx1.size;have hE:=hE.ae hx1;refine WL.m rfl<|WL.v (Y.n4 rfl rfl (by rw [bT];have:=dS (n:=s.size) ai;omega))<|WL.a rfl<|WL.nil (hK2 _ _ ?_);clear hK2;refine CW.ret ⟨_,rfl,?_⟩;exact⟨by rw [gL,bR,←dw,AN],hE⟩
theorem tF(d:aD)(w:World):Calls prog 104 #[cU d] w (cB fun v w'=>v= .string (bs d.1)∧Ext w w'):=by
 have hd:=d.2;refine ar 17 [2] [(0,cU d)] func104 rfl rfl rfl aL du ?_;have hE:Ext w w:=aE.refl;refine CW.sr fun K1 hK1=>WL.box rfl rfl aw fun g1 w1 hx1 hg1 hB1=>?_;have hlt1:=hB1.lt;have hz1:=hx1.size;have hM1:=hB1.mem;have hE:=hE.ae hx1;refine WL.a rfl<|WL.nil (hK1 _ _ ?_);clear hK1;refine CW.sr fun K2 hK2=>WL.a rfl<|WL.nil (hK2 _ _ ?_);clear hK2;refine CW.seq fun K3 hK3=>CW.sr fun K4 hK4=>WL.a rfl<|WL.nil (hK4 _ _ ?_);clear hK4;refine CW.block ?_;refine CW.loop (X:=Nat) (fun x=>[(1,.pointer (some ⟨g1,0,none⟩)),(3,.string (bs (d.1.take x))),(4,.int .i64 (x:Int))]) (fun x w0=>x≤32∧Ext w w0∧aK w0 g1 42 (aN d)) (fun x=>32-x) 0 Fr.ok ⟨Nat.zero_le _,hE,hB1⟩ ?_;intro x w2 hl2;clear hE hB1 hM1;obtain⟨hx,hE,hB1⟩:=hl2;refine CW.seq fun K5 hK5=>CW.sr fun K6 hK6=>WL.m rfl<|WL.v (Y.lss rfl rfl)<|WL.nil (hK6 _ _ ?_);clear hK6;refine bp ?_ ?_<;>intro ht7
 ·refine CW.skip ?_;refine hK5 _ _ ?_;clear hK5;refine CW.seq fun K8 hK8=>?_;refine CW.block<|CW.region<|WL.m rfl<|WL.m rfl<|WL.v (Y.aW underlying42 rfl rfl cg ai)<|WL.v (Y.ah underlying5 rfl (hB1.mem.wY (i:=x) ai) rfl)<|WL.st (St.buildSlice rfl (Bg _)) aw fun v13 w3 hR3=>?_;obtain⟨g,rfl,hg,hB,hx3⟩:=hR3;have hE:=hE.ae hx3;have hB1:=hB1.ext hx3;refine WL.v (Y.dy underlying142 underlying5 underlying9 rfl (l:=[d.1[x]'ai]) rfl (fun _=>⟨_,rfl,hB.mem⟩) (fun h=>by cases h))<|WL.v (Y.n4 rfl rfl (by rw [bT,bT,List.length_take];simp only [List.length_cons,List.length_nil];omega))<|WL.a rfl<|WL.nil (hK8 _ _ ?_);clear hK8;refine CW.region<|WL.m rfl<|WL.v (Y.add rfl rfl bB)<|WL.a rfl<|WL.nil ?_;refine⟨x+1,by omega,Fr.le.cons rfl (Fr.le.cons (by rw [dw,←take_succ (List.getElem?_eq_getElem ai)];rfl) (Fr.le.cons rfl Fr.le.nil)),by omega,hE,hB1⟩
 refine CW.exit ?_;refine hK3 _ _ ?_;clear hK3;refine CW.sr fun K9 hK9=>WL.m rfl<|WL.a rfl<|WL.nil (hK9 _ _ ?_);clear hK9;refine CW.ret ⟨_,rfl,?_⟩;exact⟨by rw [List.take_of_length_le ai],hE⟩
theorem GQ(x:ct)(w:World)(hr:fK x.at_=true)(hn:0≤x.at_.n∧x.at_.n≤2000):Calls prog 106 #[Bz x] w (cB fun v w'=>v= .string (bs (wx x))∧Ext w w'):=by
 have hfl:=xm x;have hf0:=mX x;have hnl:=ke (n:=x.at_.n) ai;have hdl:=x.at_.c.2;have hol:=FD (x:=x) ai;refine ar 50 [2] [(0,Bz x)] func106 rfl rfl rfl aL du ?_;have hE:Ext w w:=aE.refl;refine CW.sr fun K1 hK1=>WL.box rfl rfl aw fun g1 w1 hx1 hg1 hB1=>?_;have hlt1:=hB1.lt;have hz1:=hx1.size;have hM1:=hB1.mem;have hE:=hE.ae hx1;refine WL.a rfl<|WL.nil (hK1 _ _ ?_);clear hK1;refine CW.sr fun K2 hK2=>WL.a rfl<|WL.nil (hK2 _ _ ?_);clear hK2;refine CW.bK (X:=Unit) (fun _=>[(1,.pointer (some ⟨g1,0,none⟩)),(3,.int .i64 (if x.kind=2 then 1 else 0))]) (fun _ w0=>Ext w w0∧aK w0 g1 64 (eM x)) ?_ ?_
 ·refine CW.sr fun K4 hK4=>WL.v (Y.fieldAddr dg rfl)<|WL.v (Y.ah underlying3 rfl hB1.mem.yr rfl)<|WL.v (Y.eql rfl rfl)<|WL.nil (hK4 _ _ ?_);clear hK4;refine bp ?_ ?_<;>intro ht5
  ·refine CW.region<|WL.a rfl<|WL.nil ?_;exact⟨(),Fr.le.cons rfl (Fr.le.cons (by rw [if_pos (by assumption)];rfl) Fr.le.nil),hE,hB1⟩
  refine CW.skip ?_;exact⟨(),Fr.le.cons rfl (Fr.le.cons (by rw [if_neg (by assumption)];rfl) Fr.le.nil),hE,hB1⟩
 rintro u w2 hj2;clear hE hB1 hM1;obtain⟨hE,hB1⟩:=hj2;refine CW.bK (X:=Unit) (fun _=>[(1,.pointer (some ⟨g1,0,none⟩)),(3,.int .i64 ((if x.kind=2 then 1 else 0)+(if x.left=true then 2 else 0)))]) (fun _ w0=>Ext w w0∧aK w0 g1 64 (eM x)) ?_ ?_
 ·refine CW.sr fun K7 hK7=>WL.v (Y.fieldAddr fB rfl)<|WL.v (Y.ah underlying4 rfl hB1.mem.FQ rfl)<|WL.nil (hK7 _ _ ?_);clear hK7;refine bp ?_ ?_<;>intro ht8
  ·refine CW.region<|WL.m rfl<|WL.v (Y.add rfl rfl bB)<|WL.a rfl<|WL.nil ?_;exact⟨(),Fr.le.cons rfl (Fr.le.cons (by rw [if_pos (show x.left=true by assumption)];rfl) Fr.le.nil),hE,hB1⟩
  refine CW.skip ?_;exact⟨(),Fr.le.cons rfl (Fr.le.cons (by rw [show x.left=false by assumption,show(if(false:Bool)=true then(2:Int)else 0)=0 from rfl,Int.add_zero];rfl) Fr.le.nil),hE,hB1⟩
 rintro u w3 hj3;clear hE hB1;obtain⟨hE,hB1⟩:=hj3;refine CW.sr fun K9 hK9=>WL.a rfl<|WL.nil (hK9 _ _ ?_);clear hK9;refine CW.bK (X:=Unit) (fun _=>[(1,.pointer (some ⟨g1,0,none⟩)),(3,.int .i64 (fp x)),(4,.string (bs (tV x)))]) (fun _ w0=>Ext w w0∧aK w0 g1 64 (eM x)) ?_ ?_
 ·refine CW.sr fun K11 hK11=>WL.v (Y.fieldAddr bE rfl)<|WL.v (Y.load underlying62 rfl hB1.mem.oo (aT _) rfl)<|WL.call func84 rfl rfl rfl (oO _ _) aL ?_;rintro v w4 ⟨rfl,hx4⟩;have hz4:=hx4.size;have hE:=hE.ae hx4;have hB1:=hB1.ext hx4;refine WL.nil (hK11 _ _ ?_);clear hK11;refine CW.block<|CW.sr fun K12 hK12=>WL.v (Y.eql rfl rfl)<|WL.a rfl<|WL.nil (hK12 _ _ ?_);clear hK12;refine bp ?_ ?_<;>intro ht13
  ·refine CW.sr fun K14 hK14=>WL.m rfl<|WL.v (Y.add rfl rfl bB)<|WL.a rfl<|WL.nil (hK14 _ _ ?_);clear hK14;refine CW.region<|WL.v (Y.fieldAddr bE rfl)<|WL.v (Y.fieldAddr bF rfl)<|WL.v (Y.ah underlying3 rfl hB1.mem.oo.iR rfl)<|WL.call func103 rfl rfl rfl (An _ _ hn.1 ai) aL ?_;rintro v w5 ⟨rfl,hx5⟩;have hz5:=hx5.size;have hE:=hE.ae hx5;have hB1:=hB1.ext hx5;refine WL.a rfl<|WL.nil ?_;have ho:=Ks (r:=x.at_) (by assumption);exact⟨(),Fr.le.cons rfl (Fr.le.cons (by rw [fp,if_pos ho];rfl) (Fr.le.cons (by rw [tV,if_pos ho];rfl) Fr.le.nil)),hE,hB1⟩
  refine CW.sr fun K15 hK15=>WL.v (Y.eql rfl rfl)<|WL.a rfl<|WL.nil (hK15 _ _ ?_);clear hK15;refine bp ?_ ?_<;>intro ht16
  ·refine CW.sr fun K17 hK17=>WL.m rfl<|WL.v (Y.add rfl rfl bB)<|WL.a rfl<|WL.nil (hK17 _ _ ?_);clear hK17;refine CW.quiet (fun wq=>Ext w4 wq) aG aG aE.drew<|QL.v (fun wq hq=>Y.fieldAddr bE rfl)<|QL.v (fun wq hq=>Y.fieldAddr cw rfl)<|QL.v (fun wq hq=>Y.load underlying42 rfl (hB1.ext hq).mem.oo.mr (aj _) rfl)<|QL.call func104 rfl rfl rfl (fun wq hq=>cA (tF _ _) hq) aL<|QL.v (fun wq hq=>Y.fieldAddr bE rfl)<|QL.v (fun wq hq=>Y.fieldAddr bF rfl)<|QL.v (fun wq hq=>Y.ah underlying3 rfl (hB1.ext hq).mem.oo.iR rfl)<|QL.call func103 rfl rfl rfl (fun wq hq=>cA (An _ _ hn.1 ai) hq) aL<|QL.v (fun wq hq=>Y.n4 rfl rfl (by rw [bT,bT];omega))<|QL.a rfl<|QL.nil fun w6 hx6=>?_;have hz6:=hx6.size;have hE:=hE.ae hx6;have hB1:=hB1.ext hx6;obtain⟨ho,hb⟩:=Kn hr (by assumption);exact⟨(),Fr.le.cons rfl (Fr.le.cons (by rw [show fp x=(if x.kind=2 then 1 else 0)+(if x.left=true then 2 else 0)+8 by simp [fp,ho,hb]];rfl) (Fr.le.cons (by rw [show tV x=x.at_.c.1++jL x.at_.n by simp [tV,ho,hb],←dw];rfl) Fr.le.nil)),hE,hB1⟩
  refine CW.skip ?_;obtain⟨ho,hb⟩:=Ku hr (by assumption) (by assumption);exact⟨(),Fr.le.cons rfl (Fr.le.cons (by rw [show fp x=(if x.kind=2 then 1 else 0)+(if x.left=true then 2 else 0)by simp [fp,ho,hb]];rfl) (Fr.le.cons (by rw [show tV x=[]by simp [tV,ho,hb]];rfl) Fr.le.nil)),hE,hB1⟩
 rintro u w7 hj7;clear hE hB1;obtain⟨hE,hB1⟩:=hj7;refine CW.sr fun K18 hK18=>WL.m rfl<|WL.call func103 rfl rfl rfl (An _ _ hf0.1 ai) aL ?_;rintro v w8 ⟨rfl,hx8⟩;have hz8:=hx8.size;have hE:=hE.ae hx8;have hB1:=hB1.ext hx8;refine WL.m rfl<|WL.v (Y.n4 rfl rfl (by rw [bT,bT];omega))<|WL.a rfl<|WL.nil (hK18 _ _ ?_);clear hK18;refine CW.bK (X:=Unit) (fun _=>[(4,.string (bs (wx x)))]) (fun _ w0=>Ext w w0) ?_ ?_
 ·refine CW.sr fun K20 hK20=>WL.v (Y.fieldAddr dg rfl)<|WL.v (Y.ah underlying3 rfl hB1.mem.yr rfl)<|WL.v (Y.eql rfl rfl)<|WL.nil (hK20 _ _ ?_);clear hK20;refine bp ?_ ?_<;>intro ht21
  ·refine CW.region<|WL.m rfl<|WL.v (Y.fieldAddr jU rfl)<|WL.v (Y.ah underlying5 rfl hB1.mem.Ip rfl)<|WL.st (St.buildSlice rfl (Bg _)) aw fun v46 w9 hR9=>?_;obtain⟨g,rfl,hg,hB,hx⟩:=hR9;have hE:=hE.ae hx;refine WL.v (Y.dy underlying142 underlying5 underlying9 rfl (l:=[x.byte]) rfl (fun _=>⟨_,rfl,hB.mem⟩) (fun h=>by cases h))<|WL.v (Y.n4 rfl rfl (by rw [dw,bT,bT,List.length_append];simp only [List.length_cons,List.length_nil];omega))<|WL.a rfl<|WL.nil ?_;exact⟨(),Fr.le.cons (by rw [Bf,if_pos (by assumption),←dw,←dw];rfl) Fr.le.nil,hE⟩
  refine CW.skip ?_;exact⟨(),Fr.le.cons (by rw [Bf,if_neg (by assumption),List.append_nil,←dw];rfl) Fr.le.nil,hE⟩
 rintro u w10 hj10;have hE:=hj10;refine CW.sr fun K22 hK22=>WL.m rfl<|WL.a rfl<|WL.nil (hK22 _ _ ?_);clear hK22;refine CW.ret ⟨_,rfl,?_⟩;exact⟨rfl,hE⟩
end Go.Proofs.YtmehkigmnpjcjaaGreatDoor
