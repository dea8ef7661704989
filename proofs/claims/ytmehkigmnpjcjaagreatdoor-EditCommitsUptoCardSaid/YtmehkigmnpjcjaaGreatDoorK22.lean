/- Parts of a proof: what its last text leans on. No condition. -/
import Derived.Test.YtmehkigmnpjcjaaGreatDoorK21
set_option linter.unusedSimpArgs false
set_option linter.unusedVariables false
namespace Go.Fu
open Go.Fw Go.Pl
theorem AX{f:Nat→Bool}{n:Nat}:∀{l:List Nat} {k:Nat},k≤l.length→(∀t c,t<k→l[t]? =some c→f c=false)→(∀c,l[k]? =some c→f c=true)→kz f n l=l.take k++n::l.drop k
 | [],k,hk,_,_=>by simp [kz]
 |y::r,0,_,_,h=>by simp [kz,h y rfl]
 |y::r,k+1,hk,h1,h2=>by
  rw [kz,if_neg (by rw [h1 0 y ai rfl];decide),AX (l:=r) (k:=k) (by simpa using hk) (fun t c ht hc=>h1 (t+1) c ai (by simpa using hc)) (fun c hc=>h2 c (by simpa using hc))];rfl
end Go.Fu
namespace Go.Fw
theorem Sl.G0{α:Type}{T:Nat→Prop}{w w':World}{enc:α→List Value}{k:Nat}{v:Value}{xs:List α}(h:Sl w enc k v xs)(hc:aE T w w')(hs:xs≠[]→∀b,v.ownBlock=some b→¬T b):Sl w' enc k v xs:=by
 by_cases hx:xs=[]
 ·subst hx;obtain⟨A,m,c,hv,hl,hmc,hcm,_⟩:=h;exact⟨A,m,c,hv,hl,hmc,hcm,fun i x hi=>by simp at hi⟩
 ·exact h.aA hc (hs hx)
end Go.Fw
namespace Go.Proofs.YtmehkigmnpjcjaaGreatDoor
open Go.RowKit Go.Fw Go.Fu Go.Pl Go.Proofs.Tryz
theorem ry{a b:aF}:rf a b<0↔cC a b=true:=by
 unfold rf cC;by_cases h:a.c=b.c
 ·rw [if_pos h,h,ud];simp;omega
 ·rw [if_neg h];cases hl:bX a.c b.c<;>simp [h]
section
variable {w w':World} {g rb ra:Nat} {ad:List aD} {ns:List Nn} {S:Nat→Prop}
theorem cH.HR(h:cH w g rb ra ad ns){k:Nat}{t:TypeId}{cs:List Value}(hb:aK w k t cs)(h1:t≠TF)(h2:t≠TN)(h3:t≠TP):¬Fp g rb ra ns k:=by
 have kd:∀{c1:Array Value} {t1:TypeId} {f1:Nat×Nat},w.heap[k]? =some (.cells c1 t1 f1)→t=t1:=fun h1=>by
  unfold aK at hb;rw [hb]at h1;injection h1 with h1;injection h1
 have hm:=h.vH hb;rintro(rfl|rfl|rfl|⟨x,hx,hk⟩)
 ·exact h1 (kd h.bY)
 ·exact hm.1 rfl
 ·exact hm.2 rfl
 ·obtain⟨i,hx⟩:=List.mem_iff_getElem?.1 hx;rcases hk with rfl|⟨s,hk⟩
  ·exact h2 (kd (h.node i x hx))
  ·obtain⟨_,_,hh⟩:=(h.kids i x s hx).kind hk;exact h3 (kd hh)
theorem cH.DL(h:cH w g rb ra ad ns){id:aD}{n:Int}(hc:aE (fun k=>k=ra) w w')(hM:∃cl l,b7 w ra AE.me l cl∧(∀e∈l,e.born<cl)∧(l.map AE.born).Nodup∧(l.map AE.k).Nodup∧(∀d,d∈l.map AE.k↔d∈ad)∧b7 w' ra AE.me (l++[⟨id,n,cl⟩]) (cl+1))(hid:id∉ad):cH w' g rb ra (ad++[id]) ns where
 bY:=h.bY.aA hc fun e=>h.CE.2 e
 node i x hx:=(h.node i x hx).aA hc fun e=>(h.kL hx).2.2 e
 kids i x s hx:=(h.kids i x s hx).aA hc fun k hk e=>(h.nR hx hk).2.2.1 e
 inj:=h.inj
 sep:=h.sep
 by_:=by obtain⟨cl,l,hMb,hr⟩:=h.by_;exact⟨cl,l,hMb.aA hc fun e=>h.ne e,hr⟩
 added:=by
  obtain⟨cl,l,_,h1,h2,h3,h4,h5⟩:=hM;refine⟨cl+1,_,h5,fun e he=>?_,?_,?_,fun d=>?_⟩
  ·rcases List.mem_append.1 he with he|he
   ·have:=h1 e he;omega
   ·simp at he;subst he;simp
  ·rw [List.map_append,List.nodup_append];refine⟨h2,by simp,fun x hx y hy=>?_⟩;obtain⟨e,he,rfl⟩:=List.mem_map.1 hx;simp at hy;subst hy;have:=h1 e he;omega
  ·rw [List.map_append,List.nodup_append];refine⟨h3,by simp,fun x hx y hy=>?_⟩;simp at hy;subst hy;rintro rfl;exact hid ((h4 x).1 hx)
  ·rw [List.map_append,List.mem_append,h4 d,List.mem_append];simp
 ne:=h.ne
theorem Fp.gone{a k:Nat}(h:Fp g rb ra (gy ns a) k):Fp g rb ra ns k:=by
 rcases h with h|h|h|⟨y,hy,h⟩
 ·exact .inl h
 ·exact .inr (.inl h)
 ·exact .inr (.inr (.inl h))
 ·obtain⟨i,hy⟩:=List.mem_iff_getElem?.1 hy;obtain⟨x,hx,h1,h2,h3,_⟩:=gX hy;refine .inr (.inr (.inr ⟨x,List.mem_of_getElem? hx,?_⟩));rcases h with h|⟨s,h⟩
  ·exact .inl (h.trans h1)
  ·exact .inr ⟨s,by cases s<;>simp [Nn.sv,←h2,←h3]<;>exact h⟩
theorem Fp.grow{a gn k:Nat}{s:Bool}{r:aF}{b:UInt8}{u:Value}(ha:a<ns.length)(h:Fp g rb ra (jE ns a s r b gn u) k):Fp g rb ra ns k∨k=gn∨u.ownBlock=some k:=by
 rcases h with h|h|h|⟨y,hy,h⟩
 ·exact .inl (.inl h)
 ·exact .inl (.inr (.inl h))
 ·exact .inl (.inr (.inr (.inl h)))
 ·obtain⟨i,hy⟩:=List.mem_iff_getElem?.1 hy;rcases gY ha hy with⟨_,rfl⟩|⟨x,hx,rfl⟩
  ·rcases h with h|⟨t,h⟩
   ·exact .inr (.inl h)
   ·cases t<;>simp [Nn.sv,Value.ownBlock]at h
  ·have hx':=List.mem_of_getElem? hx;split at h
   ·rcases h with h|⟨t,h⟩
    ·exact .inl (.inr (.inr (.inr ⟨x,hx',.inl h⟩)))
    ·rw [tz]at h;split at h
     ·exact .inr (.inr h)
     ·exact .inl (.inr (.inr (.inr ⟨x,hx',.inr ⟨t,h⟩⟩)))
   ·exact .inl (.inr (.inr (.inr ⟨x,hx',h⟩)))
theorem tC{a:Nat}{z:Nn}(hz:ns[a]? =some z):dr ns=dr (gy ns a)+if z.el.gone=true then 0 else 1:=by
 have key:∀(l:List Nn) (a:Nat) (z:Nn),l[a]? =some z→dr l=dr (gy l a)+if z.el.gone=true then 0 else 1:=by
  intro l;induction l with
  |nil=>intro a z h;simp at h
  |cons y r ih=>
   intro a z h;cases a with
   |zero=>
    simp at h;subst h;show((y::r).map Nn.el).countP _=((({y with el:={y.el with gone:=true}}:Nn)::r).map Nn.el).countP _+_;rw [List.map_cons,List.map_cons,List.countP_cons,List.countP_cons];cases y.el.gone<;>simp
   |succ a=>
    have h':r[a]? =some z:=by simpa using h
    have ih':(r.map Nn.el).countP (fun x=> !x.gone)=((gy r a).map Nn.el).countP (fun x=> !x.gone)+if z.el.gone=true then 0 else 1:=ih a z h'
    show((y::r).map Nn.el).countP _=((y::gy r a).map Nn.el).countP _+_;rw [List.map_cons,List.map_cons,List.countP_cons,List.countP_cons];omega
 exact key ns a z hz
end
structure pM(w w0:World)(g rb ra:Nat)(ad:List aD)(ns:List Nn)(id:aD)(ops:List ct)(g4:Nat)(k:Nat)(ns':List Nn):Prop where
 tree:cH w0 g rb ra (ad++[id]) ns'
 aR:aR ns'=jm id ops (aR ns) k
 aA:aE (Fp g rb ra ns) w w0
 fresh:∀q,Fp g rb ra ns' q→Fp g rb ra ns q∨w.heap.size≤q
 same:∀c,c<ns.length→fh ns' c=fh ns c
 idb:aK w0 g4 42 (aN id)
theorem cH.mS{w:World}{g rb ra:Nat}{ad:List aD}{ns:List Nn}(h:cH w g rb ra ad ns){k:Nat}{cs:List Value}(hb:aK w k 42 cs):¬Fp g rb ra ns k:=h.HR hb aw aw aw
theorem pM.del{w w0 w':World}{g rb ra:Nat}{ad:List aD}{ns ns':List Nn}{id:aD}{ops:List ct}{g4 k a:Nat}{z:Nn}{S:Nat→Prop}(h:pM w w0 g rb ra ad ns id ops g4 k ns')(hz:ns'[a]? =some z)(hc:aE S w0 w')(hS:∀q,S q→q=g∨q=z.g)
  (hg:aK w' g TF (jA (fh ns' 0) rb ra (dr (gy ns' a)))) (hn:aK w' z.g TN (bu {z.el with gone:=true} z.lv z.rv)) {o:ct} (ho:ops[k]? =some o) (ha:kX (Fw.aR ns') (res id o.at_)=some a) (hk:o.kind=2):pM w w' g rb ra ad ns id ops g4 (k+1) (gy ns' a) where
 tree:=h.tree.GK hz hc hS hg hn
 aR:=by rw [CQ,nc ho,←h.aR,pg ha hk]
 aA:=h.aA.lf hc fun q hq=>h.fresh q (by
  rcases hS q hq with rfl|rfl
  ·exact .inl rfl
  ·exact .inr (.inr (.inr ⟨z,List.mem_of_getElem? hz,.inl rfl⟩)))
 fresh q hq:=h.fresh q hq.gone
 same c hc':=by rw [vG];exact h.same c hc'
 idb:=h.idb.aA hc fun hq=>h.tree.mS h.idb (by
  rcases hS _ hq with e|e
  ·exact .inl e
  ·exact .inr (.inr (.inr ⟨z,List.mem_of_getElem? hz,.inl e⟩)))
theorem pM.ins{w w0 w':World}{g rb ra:Nat}{ad:List aD}{ns ns':List Nn}{id:aD}{ops:List ct}{g4 k a gn j:Nat}{z:Nn}{u:Value}{S:Nat→Prop}{o:ct}(h:pM w w0 g rb ra ad ns id ops g4 k ns')(hG:Fu.Good (Fw.aR ns'))(hz:ns'[a]? =some z)
  (ho:ops[k]? =some o) (ha:kX (Fw.aR ns') (res id o.at_)=some a) (hk:o.kind=1) (hr:kX (Fw.aR ns') ⟨false,id,(k:Int)+1⟩=none) (hc:aE S w0 w') (hS:∀q,S q→q=g∨q=rb∨q=z.g∨(z.sv o.left).ownBlock=some q) (hgn:w0.heap.size≤gn)
  (hg:aK w' g TF (jA (fh ns' 0) rb ra (dr ns'+1))) (hzb:aK w' z.g TN (bu z.el (cond o.left u z.lv) (cond o.left z.rv u))) (hnb:aK w' gn TN (bu ⟨⟨false,id,(k:Int)+1⟩,o.byte,false,[],[]⟩ (.slice none 0 0) (.slice none 0 0)))
  (hO:Own w' TP 1 u (b9 (((side z.el o.left).map (fh ns')).take j++gn::((side z.el o.left).map (fh ns')).drop j))) (hj:j≤(side z.el o.left).length)
  (hj1:∀(t c:Nat),t<j→(side z.el o.left)[t]? =some c→cC (nm (Fw.aR ns') c) ⟨false,id,(k:Int)+1⟩=true) (hj2:∀(t c:Nat),j≤t→(side z.el o.left)[t]? =some c→cC (nm (Fw.aR ns') c) ⟨false,id,(k:Int)+1⟩=false)
  (hf:∀q,u.ownBlock=some q→(z.sv o.left).ownBlock=some q∨w0.heap.size≤q)
  (hM:∃cl l,b7 w0 rb BE.me l cl∧(∀e∈l,e.born<cl)∧(l.map BE.born).Nodup∧l.length+1=ns'.length∧(∀e∈l,∃i x,0<i∧ns'[i]? =some x∧x.el.name=e.k∧x.g=e.g)∧(∀(i:Nat) (x:Nn),0<i→ns'[i]? =some x→∃e∈l,e.k=x.el.name)∧b7 w' rb BE.me (l++[⟨⟨false,id,(k:Int)+1⟩,gn,cl⟩]) (cl+1)):
  pM w w' g rb ra ad ns id ops g4 (k+1) (jE ns' a o.left ⟨false,id,(k:Int)+1⟩ o.byte gn u):=by
 have hal:=(List.getElem?_eq_some_iff.1 hz).1;have hel:(Fw.aR ns').length=ns'.length:=List.length_map _;have hze:(Fw.aR ns')[a]? =some z.el:=by rw [List.getElem?_map,hz];rfl
 have hside:∀c∈side z.el o.left,c<ns'.length:=fun c hcm=>by
  have:=hG.down a z.el hze c (by
   unfold side at hcm;cases hlf:o.left<;>rw [hlf]at hcm<;>first|exact .inr hcm|exact .inl hcm)
  omega
 have hkid:(tX (Fw.aR ns') ⟨false,id,(k:Int)+1⟩ (side z.el o.left)).map (fun c=>if c=ns'.length then gn else fh ns' c)=((side z.el o.left).map (fh ns')).take j++gn::((side z.el o.left).map (fh ns')).drop j:=by
  rw [tX,AX hj (fun t c ht hcc=>uN (hj1 t c ht hcc)) (fun c hcc=>by
   have hcl:=hside c (List.mem_of_getElem? hcc);obtain⟨y,hy⟩:∃y,(Fw.aR ns')[c]? =some y:=⟨_,List.getElem?_eq_getElem ai⟩;cases hh:cC ⟨false,id,(k:Int)+1⟩ (nm (Fw.aR ns') c)with
   |true=>rfl
   |false=>
    have hown:=hG.Ig hy;rw [←fc hy]at hown;have:=Bd hown (hj2 j c (Nat.le_refl _) hcc) hh;rw [fc hy]at this;exact absurd this (iz.1 hr y (List.mem_of_getElem? hy))),List.map_append,List.map_cons,hel,if_pos rfl]
  have hsame:∀m:List Nat,(∀c∈m,c<ns'.length)→m.map (fun c=>if c=ns'.length then gn else fh ns' c)=m.map (fh ns'):=fun m hm=>List.map_congr_left fun c hcm=>by rw [if_neg (by have:=hm c hcm;omega)]
  rw [hsame _ fun c hcm=>hside c (List.mem_of_mem_take hcm),hsame _ fun c hcm=>hside c (List.mem_of_mem_drop hcm),List.map_take,List.map_drop]
 have hmore:bu (z.el.more (Fw.aR ns') o.left ⟨false,id,(k:Int)+1⟩) (cond o.left u z.lv) (cond o.left z.rv u)=bu z.el (cond o.left u z.lv) (cond o.left z.rv u):=by
  have h1:(z.el.more (Fw.aR ns') o.left ⟨false,id,(k:Int)+1⟩).name=z.el.name∧(z.el.more (Fw.aR ns') o.left ⟨false,id,(k:Int)+1⟩).byte=z.el.byte∧(z.el.more (Fw.aR ns') o.left ⟨false,id,(k:Int)+1⟩).gone=z.el.gone:=by unfold El.more;split<;>exact⟨rfl,rfl,rfl⟩
  unfold bu;rw [h1.1,h1.2.1,h1.2.2]
 have hfp:∀q,S q→Fp g rb ra ns' q:=fun q hq=>by
  rcases hS q hq with e|e|e|e
  ·exact .inl e
  ·exact .inr (.inl e)
  ·exact .inr (.inr (.inr ⟨z,List.mem_of_getElem? hz,.inl e⟩))
  ·exact .inr (.inr (.inr ⟨z,List.mem_of_getElem? hz,.inr ⟨_,e⟩⟩))
 exact⟨h.tree.ins hG.down hz hr hc hS hgn hg (by rw [hmore];exact hzb) hnb (by rw [hkid];exact hO) hf hM,
  by rw [uC hal,nc ho,←h.aR,oZ ha hk],
  h.aA.lf hc fun q hq=>h.fresh q (hfp q hq),
  fun q hq=>by
   have hsz:=h.aA.size;rcases hq.grow hal with hq|rfl|hq
   ·exact h.fresh q hq
   ·exact .inr ai
   ·rcases hf q hq with hq|hq
    ·exact h.fresh q (.inr (.inr (.inr ⟨z,List.mem_of_getElem? hz,.inr ⟨_,hq⟩⟩)))
    ·exact .inr ai,
  fun c hcc=>by
   have hlen:ns.length≤ns'.length:=by
    have h1:(Fw.aR ns').length=(jm id ops (Fw.aR ns) k).length:=by rw [h.aR]
    have h2:(Fw.aR ns).length≤(jm id ops (Fw.aR ns) k).length:=by
     by_cases h0:(Fw.aR ns).length=0
     ·omega
     ·obtain⟨y,hy⟩:∃y,(Fw.aR ns)[(Fw.aR ns).length-1]? =some y:=⟨_,List.getElem?_eq_getElem ai⟩;obtain⟨y',hy',_⟩:=tt (id:=id) (ops:=ops) (k:=k) hy;have:=(List.getElem?_eq_some_iff.1 hy').1;omega
    rw [hel]at h1;rw [List.length_map]at h2;omega
   rw [rQ hal,if_neg ai];exact h.same c hcc,
  h.idb.aA hc fun hq=>h.tree.mS h.idb (hfp _ hq)⟩
def py(ns:List Nn)(b:Nat):aF:=((ns.find? fun x=>decide (x.g=b)).map fun x=>x.el.name).getD aF.zero
theorem cH.zD{w:World}{g rb ra:Nat}{ad:List aD}{ns:List Nn}(h:cH w g rb ra ad ns){i:Nat}{x:Nn}(hx:ns[i]? =some x):py ns x.g=x.el.name:=by
 unfold py;cases hf:ns.find? fun y=>decide (y.g=x.g)with
 |none=>
  have:=List.find?_eq_none.1 hf x (List.mem_of_getElem? hx);simp at this
 |some y=>
  have h1:=List.find?_some hf;obtain⟨j,hy⟩:=List.mem_iff_getElem?.1 (List.mem_of_find?_eq_some hf);have:=h.inj j i y x hy hx (by simpa using h1);subst this;rw [hx]at hy;injection hy with hy;subst hy;rfl
theorem cH.yH{w:World}{g rb ra:Nat}{ad:List aD}{ns:List Nn}(h:cH w g rb ra ad ns)(hG:Fu.Good (Fw.aR ns)){a:Nat}{z:Nn}(hz:ns[a]? =some z)(s:Bool):
  (∀b∈(side z.el s).map (fh ns),∃i y,ns[i]? =some y∧y.g=b∧0<i)∧(∀(t b:Nat),((side z.el s).map (fh ns))[t]? =some b→∃c,(side z.el s)[t]? =some c∧py ns b=nm (Fw.aR ns) c)∧((side z.el s).map (fh ns)).length≤ns.length∧
  (∀t t':Nat,t<t'→∀b b',((side z.el s).map (fh ns))[t]? =some b→((side z.el s).map (fh ns))[t']? =some b'→cC (py ns b) (py ns b')=true):=by
 have hze:(Fw.aR ns)[a]? =some z.el:=by rw [List.getElem?_map,hz];rfl
 have hel:(Fw.aR ns).length=ns.length:=List.length_map _;have hside:∀c∈side z.el s,a<c∧c<ns.length:=fun c hcm=>by
  have:=hG.down a z.el hze c (by
   unfold side at hcm;cases s<;>first|exact .inr hcm|exact .inl hcm)
  omega
 have hat:∀c∈side z.el s,∃y,ns[c]? =some y∧fh ns c=y.g∧py ns (fh ns c)=nm (Fw.aR ns) c:=fun c hcm=>by
  obtain⟨y,hy⟩:∃y,ns[c]? =some y:=⟨_,List.getElem?_eq_getElem (hside c hcm).2⟩;refine⟨y,hy,fH hy,?_⟩;rw [fH hy,h.zD hy,fc (by rw [List.getElem?_map,hy];rfl)]
 have hsort:C2 (qN (Fw.aR ns) (side z.el s)):=by
  have:=hG.sort a z.el hze;cases s
  ·exact this.2
  ·exact this.1
 have h2:∀(t b:Nat),((side z.el s).map (fh ns))[t]? =some b→∃c,(side z.el s)[t]? =some c∧py ns b=nm (Fw.aR ns) c:=fun t b hb=>by
  rw [List.getElem?_map]at hb;obtain⟨c,hc,rfl⟩:=Option.map_eq_some_iff.1 hb;obtain⟨y,_,_,h3⟩:=hat c (List.mem_of_getElem? hc);exact⟨c,hc,h3⟩
 refine⟨fun b hb=>?_,h2,?_,fun t t' htt b b' hb hb'=>?_⟩
 ·obtain⟨c,hc,rfl⟩:=List.mem_map.1 hb;obtain⟨y,hy,hgy,_⟩:=hat c hc;exact⟨c,y,hy,hgy.symm,by have:=hside c hc;omega⟩
 ·rw [List.length_map];have hnd:(side z.el s).Nodup:=by
   have:(side z.el s).Pairwise fun x y=>cC (nm (Fw.aR ns) x) (nm (Fw.aR ns) y)=true:=List.pairwise_map.1 hsort;exact this.imp fun{x y} hlt e=>by rw [e,kh]at hlt;cases hlt
  have:=vW (fun _=>1) (l:=side z.el s) (m:=List.range ns.length) hnd fun c hc=>List.mem_range.2 (hside c hc).2;have hcn:∀l:List Nat,(l.map fun _=>1).sum=l.length:=fun l=>by
   induction l with
   |nil=>rfl
   |cons x r ih=>simp only [List.map_cons,List.sum_cons,ih,List.length_cons];omega
  rwa [hcn,hcn,List.length_range]at this
 ·obtain⟨c,hc,h3⟩:=h2 t b hb;obtain⟨c',hc',h3'⟩:=h2 t' b' hb';rw [h3,h3'];exact(List.pairwise_iff_getElem.1 hsort t t' (by simpa using(List.getElem?_eq_some_iff.1 hc).1) (by simpa using(List.getElem?_eq_some_iff.1 hc').1) htt)|>fun hh=>by
   simpa [(List.getElem?_eq_some_iff.1 hc).2,(List.getElem?_eq_some_iff.1 hc').2]using hh
theorem yb(r:aF)(b:UInt8)(w:World):(Instr.build TN [(0,dE r),(1,Value.int .u8 (b.toNat:Int))].toArray).run prog w= .ok (.agg (bu ⟨r,b,false,[],[]⟩ (.slice none 0 0) (.slice none 0 0)).toArray) w:=run_build w _ _ _ (by
 have hb:∀parts,prog.built TN parts=Instr.fill (fun i=>#[(0,34),(34,1),(35,1),(36,1),(37,1)][i]?) (bu ⟨aF.zero,0,false,[],[]⟩ (.slice none 0 0) (.slice none 0 0)).toArray parts:=fun parts=>by kernel_rfl
 show prog.built _ [(0,dE r),(1,Value.int .u8 (b.toNat:Int))]=_;rw [hb];have e0:bu ⟨aF.zero,0,false,[],[]⟩ (.slice none 0 0) (.slice none 0 0)=[]++aX aF.zero++[bc 0,.bool false,.slice none 0 0,.slice none 0 0]:=rfl;rw [e0,bM [] (aX aF.zero) [bc 0,.bool false,.slice none 0 0,.slice none 0 0] (aX r) (by rw [ax];rfl) rfl (by rw [ax,ax]) rfl];have e1:[]++aX r++[bc 0,.bool false,.slice none 0 0,.slice none 0 0]=aX r++[bc 0]++[.bool false,.slice none 0 0,.slice none 0 0]:=by simp
 rw [e1,bM (aX r) [bc 0] [.bool false,.slice none 0 0,.slice none 0 0] [.int .u8 (b.toNat:Int)] rfl rfl rfl (ax r),Instr.fill];simp [bu,bc])
theorem Mem.He{w:World}{a:Addr}{x:El}{lv rv:Value}(h:Mem w a (bu x lv rv))(s:Bool):w.cell? (a.add (cond s 36 37))=some (cond s lv rv):=by
 cases s
 ·exact h.fP
 ·exact h.fN
theorem qE(x:El)(lv rv:Value)(s:Bool):bu x lv rv=(aX x.name++[bc x.byte,.bool x.gone]++cond s [] [lv])++[cond s lv rv]++cond s [rv] []:=by cases s<;>simp [bu]
set_option maxRecDepth 100000 in
set_option maxHeartbeats 4000000 in
theorem xR(g rb ra:Nat)(ad:List aD)(ns:List Nn)(id:aD)(u:Value)(ops:List ct)(L:kR)(w:World)(hT:cH w g rb ra ad ns)(hL:fI L ⟨ad,Fw.aR ns⟩)(hl:Sl w eM 37 u ops)(hb:ops≠[]→∀k,u.ownBlock=some k→k<w.heap.size∧¬Fp g rb ra ns k):Calls prog 20 #[.pointer (some ⟨g,0,none⟩),cU id,u] w (cB fun v w'=>v= .int .i64 (di ⟨ad,Fw.aR ns⟩ id ops)∧∃ns',cH w' g rb ra (iJ ⟨ad,Fw.aR ns⟩ id ops).ad ns'∧Fw.aR ns'=(iJ ⟨ad,Fw.aR ns⟩ id ops).e∧aE (Fp g rb ra ns) w w'∧(∀q,Fp g rb ra ns' q→Fp g rb ra ns q∨w.heap.size≤q)∧∀c,c<ns.length→fh ns' c=fh ns c):=by
 have hB0:=hT.bY;have hlo:∀k,Fp g rb ra ns k→k<w.heap.size:=fun k hk=>hT.lt hk;have hg0:=hB0.lt;have hG:=hL.eX;have hel:(Fw.aR ns).length=ns.length:=List.length_map _;have hn:ns.length≤400001:=by have:=hL.G8;have h2:(Fw.aR ns).length≤400001:=this;omega
 obtain⟨A,m,c,rfl,hm,hmc,hcm,_⟩:=_root_.id hl;unfold maxLen at hcm;have hlo2:=hl;have hTo:=hT;obtain⟨io,hio,hzo,hso⟩:=oF;obtain⟨cla,la,hMa,ha1,ha2,ha3,ha4⟩:=hT.added;refine ar 112 [6] [(0,.pointer (some ⟨g,0,none⟩)),(1,cU id),(2,.slice A m c)] func20 rfl rfl rfl aL iI ?_;have hE:Ext w w:=aE.refl;refine CW.sr fun K1 hK1=>WL.box rfl rfl aw fun g4 w1 hx1 hg4 hB4=>?_;have hlt4:=hB4.lt;have hz1:=hx1.size;have hE:=hE.ae hx1;refine WL.a rfl<|WL.nil (hK1 _ _ ?_);clear hK1;refine CW.seq fun K2 hK2=>CW.sr fun K3 hK3=>WL.m rfl<|WL.call func44 rfl rfl rfl (nj g rb ra ad ns _ (hT.ext hE)) aL ?_;rintro v w2 ⟨rfl,hx2⟩;have hz2:=hx2.size;have hE:=hE.ae hx2;have hB4:=hB4.ext hx2;refine WL.v (Y.not rfl)<|WL.nil (hK3 _ _ ?_);clear hK3;refine bp ?_ ?_<;>intro ht4
 ·refine CW.sr fun K5 hK5=>WL.a rfl<|WL.nil (hK5 _ _ ?_);clear hK5;refine CW.ret ⟨_,rfl,?_⟩;exact absurd (show true=false by assumption) aw
 refine CW.skip ?_;refine hK2 _ _ ?_;clear hK2;refine CW.seq fun K6 hK6=>CW.sr fun K7 hK7=>WL.m rfl<|WL.v (Y.load underlying42 rfl hB4.mem (aj _) rfl)<|WL.m rfl<|WL.call func45 rfl rfl rfl (yU g rb ra ad ns id _ ops _ (hT.ext hE) hG hn (hlo2.ext hE)) aL ?_;rintro v w3 ⟨rfl,hx3⟩;have hz3:=hx3.size;have hE:=hE.ae hx3;have hB4:=hB4.ext hx3;refine WL.a rfl<|WL.nil (hK7 _ _ ?_);clear hK7;refine CW.sr fun K8 hK8=>WL.m rfl<|WL.v (Y.neq rfl rfl)<|WL.nil (hK8 _ _ ?_);clear hK8;refine bp ?_ ?_<;>intro ht9
 ·refine CW.sr fun K10 hK10=>WL.m rfl<|WL.a rfl<|WL.nil (hK10 _ _ ?_);clear hK10;refine CW.ret ⟨_,rfl,?_⟩;exact⟨rfl,ns,by rw [iJ,if_neg (by assumption)];exact hT.ext hE,by rw [iJ,if_neg (by assumption)],Ext.aA hE,fun q hq=>.inl hq,fun c hc=>rfl⟩
 refine CW.skip ?_;refine hK6 _ _ ?_;clear hK6;refine CW.seq fun K11 hK11=>?_;have hw0:di ⟨ad,Fw.aR ns⟩ id ops=0:=Decidable.not_not.1 (by assumption);obtain⟨hnid,hl2,hcnt,hwn⟩:=kK hw0;have hcnt:fF ops+(ns.length-1)≤400000:=by rw [←hel];exact hcnt
 have hno:cV AE.k id la 0=none:=by
  have h9:=AE.look ha4 id;rw [decide_eq_false hnid]at h9;cases hf:cV AE.k id la 0 with
  |none=>rfl
  |some p=>rw [hf]at h9;cases h9
 have hidL:id∉L.map (·.1):=by have:=hL.ads;rw [←show ad=L.map (·.1)from this];exact hnid
 refine CW.head 7 aG aG fun w4 hx4=>?_;skip;have hz4:=hx4.size;have hE:=hE.ae hx4;have hB4:=hB4.ext hx4;refine HL.val (Y.move rfl) aw<|HL.val (Y.nilCheck rfl) aw<|HL.val (Y.fieldAddr ji rfl) aw<|HL.val (Y.ah underlying71 rfl (hB0.ext hE).mem.lN rfl) aw<|HL.val (Y.load underlying42 rfl hB4.mem (aj _) rfl) aw<|HL.val (Y.move rfl) aw<|HL.val (Y.aq underlying27 rfl) aw<|HL.nil<|WL.su (Su.qu (b:=(⟨id,(m:Int),cla⟩:AE)) iP (fun _=>rfl) JI rfl rfl rfl (hMa.ext hE) hno rfl) fun w5 hR5=>?_;obtain⟨hMa5,hc5⟩:=hR5;have hE4:Ext w w4:=hE;have hA:pM w w5 g rb ra ad ns id ops g4 0 ns:={
  tree:=(hT.ext hE4).DL hc5 ⟨cla,la,hMa.ext hE4,ha1,ha2,ha3,ha4,hMa5⟩ hnid
  aR:=rfl
  aA:=(Ext.aA hE4).trans hc5 (fun q _ h=>.inr (.inr (.inl h)))
  fresh:=fun q hq=>.inl hq
  same:=fun c _=>rfl
  idb:=hB4.aA hc5 (fun h=>(hT.ext hE4).mS hB4 (.inr (.inr (.inl h))))}
 refine WL.nil (hK11 _ _ ?_);clear hK11;refine CW.seq fun K12 hK12=>CW.sr fun K13 hK13=>WL.m rfl<|WL.v (Y.aq underlying27 rfl)<|WL.m rfl<|WL.nil (hK13 _ _ ?_);clear hK13;refine CW.block ?_;refine CW.loop (X:=Nat×List Nn) (fun x=>[(0,.pointer (some ⟨g,0,none⟩)),(2,.slice A m c),(4,.pointer (some ⟨g4,0,none⟩)),(32,.slice A m c),(33,.int .i64 (m:Int)),(34,.int .i64 (x.1:Int))]) (fun x w0=>x.1≤m∧pM w w0 g rb ra ad ns id ops g4 x.1 x.2) (fun x=>m-x.1) (0,ns) Fr.ok ⟨Nat.zero_le _,hA⟩ ?_;intro x w6 hl6;obtain⟨k,ns2⟩:=x;dsimp only at hl6⊢;obtain⟨hkm,hA⟩:=hl6;have hT2:=hA.tree;have hE:aE (fun k=>k=g∨k=rb) w6 w6:=aE.refl;have hz06:=hA.aA.size;have hB4:=hA.idb;have hlk:=hlo2.G0 hA.aA (fun h0 q hq=>(hb h0 q hq).2);obtain⟨hG2,hB2,hn2⟩:=ld hG hL.built hidL hl2 hwn k ai;have hG2':Fu.Good (Fw.aR ns2):=by rw [hA.aR];exact hG2
 have hn2':ns2.length=ns.length+fF (ops.take k):=by
  have h1:(Fw.aR ns2).length=ns2.length:=List.length_map _;rw [←h1,hA.aR,hn2,hel]
 have hn3:ns2.length≤400001:=by
  have h1:fF (ops.take k)≤fF ops:=List.Sublist.countP_le (List.take_sublist k ops);have h2:=hG.pos;rw [hel]at h2;omega
 refine CW.sr fun K14 hK14=>WL.v (Y.lss rfl rfl)<|WL.nil (hK14 _ _ ?_);clear hK14;refine CW.seq fun K15 hK15=>?_;refine bp ?_ ?_<;>intro ht16
 ·refine CW.skip ?_;refine hK15 _ _ ?_;clear hK15;obtain⟨o,ho⟩:∃o,ops[k]? =some o:=⟨_,List.getElem?_eq_getElem ai⟩;obtain⟨aa,rfl,hma⟩:=hlk.get ho;have hwo:=gh hwn ho;have hRO:=j2 ho (eB hwo).1;obtain⟨a,ha⟩:∃a,kX (Fw.aR ns2) (res id o.at_)=some a:=by rw [hA.aR];exact pJ hL.built hB2 ho hwo
  have hal:=vR ha;rw [List.length_map]at hal;obtain⟨z,hz⟩:∃z,ns2[a]? =some z:=⟨_,List.getElem?_eq_getElem hal⟩;have hnew:kX (Fw.aR ns2) ⟨false,id,(k:Int)+1⟩=none:=by rw [hA.aR];exact wA hB2 hidL ai
  have hap:G4 ns2 (kX (Fw.aR ns2) (res id o.at_))= .pointer (some ⟨z.g,0,none⟩):=by
   rw [ha];show Value.pointer (some ⟨fh ns2 a,0,none⟩)=_;rw [fH hz]
  have hlv:dr ns2≤ns2.length:=by
   have:=List.countP_le_length (p:=fun x:El=> !x.gone) (l:=Fw.aR ns2);rwa [List.length_map]at this
  have hzb:=hT2.node a z hz;have hzlt:=hzb.lt;have hglt:=hT2.bY.lt;have hzne:=hT2.kL hz;have hrblt:=hT2.lt (.inr (.inl rfl));obtain⟨clb,lb,hMb,hb1,hb2,hb3,hb4,hb5⟩:=hT2.by_;have hnob:cV BE.k ⟨false,id,(k:Int)+1⟩ lb 0=none:=by
   cases hf:cV BE.k ⟨false,id,(k:Int)+1⟩ lb 0 with
   |none=>rfl
   |some p=>
    obtain⟨_,hj,hkk⟩:=i5 hf;obtain⟨i,x,_,hx,hn,_⟩:=hb4 p.2 (List.mem_of_getElem? hj);exact absurd (hn.trans hkk) (iz.1 hnew x.el (List.mem_map.2 ⟨x,List.mem_of_getElem? hx,rfl⟩))
  have hz4:g4≠z.g:=fun e=>hT2.mS hB4 (.inr (.inr (.inr ⟨z,List.mem_of_getElem? hz,.inl e⟩)));have hg4b:=hB4.lt;have hg4g:g4≠g:=fun e=>hT2.mS hB4 (.inl e);have hg4r:g4≠rb:=fun e=>hT2.mS hB4 (.inr (.inl e));refine CW.bK (X:=List Nn) (fun _=>[(0,.pointer (some ⟨g,0,none⟩)),(2,.slice (some aa) m c),(4,.pointer (some ⟨g4,0,none⟩)),(32,.slice (some aa) m c),(33,.int .i64 (m:Int)),(34,.int .i64 (k:Int))]) (fun n2 w0=>pM w w0 g rb ra ad ns id ops g4 (k+1) n2) ?_ ?_
  ·refine CW.block<|CW.sr fun K18 hK18=>WL.m rfl<|WL.v (Y.af underlying27 rfl rfl bQ ai)<|WL.v (Y.load underlying64 rfl hma (eA _) rfl)<|WL.alloc (hio) (hzo) rfl aw fun g9 w7 hx7 hg9 hB9=>?_;have hlt9:=hB9.lt;have hz7:=hx7.size;have hE:=hE.ae hx7;have hB4:=hB4.ext hx7;refine WL.a rfl<|WL.store (g:=g9) (pre:=[]) (old:=eM (⟨0,false,aF.zero,0⟩:ct)) (post:=[]) (new:=eM o) rfl rfl rfl rfl (eA _) (by simpa using hB9) j0 (jM) (fun w8 hc8 hB8_=>?_);have hz8:=hc8.size;have hE:=hE.lf hc8 (fun k h=>(by show(k=g∨k=rb)∨_;omega));have hB4:=hB4.aA hc8 cq;have hB9:aK w8 g9 64 (eM o):=by simpa using hB8_
   have hx68:Ext w6 w8:=hx7.step hc8 (fun q h=>by omega);have hT8:=hT2.ext hx68;refine WL.nil (hK18 _ _ ?_);clear hK18;refine CW.sr fun K19 hK19=>WL.m rfl<|WL.v (Y.load underlying42 rfl hB4.mem (aj _) rfl)<|WL.v (Y.fieldAddr bE rfl)<|WL.v (Y.load underlying62 rfl hB9.mem.oo (aT _) rfl)<|WL.call func46 rfl rfl rfl (BL g rb ra (ad++[id]) ns2 id o.at_ _ hT8 hG2') aL ?_;rintro v w9 ⟨rfl,hx9⟩;have hz9:=hx9.size;have hE:=hE.ae hx9;have hB4:=hB4.ext hx9;have hB9:=hB9.ext hx9;rw [hap];have hx69:Ext w6 w9:=hx68.ae hx9;have hT9:=hT2.ext hx69;have hzb9:=hzb.ext hx69;refine WL.a rfl<|WL.nil (hK19 _ _ ?_);clear hK19;refine CW.seq fun K20 hK20=>CW.sr fun K21 hK21=>WL.v (Y.fieldAddr dg rfl)<|WL.v (Y.ah underlying3 rfl hB9.mem.yr rfl)<|WL.v (Y.eql rfl rfl)<|WL.nil (hK21 _ _ ?_);clear hK21;refine bp ?_ ?_<;>intro ht22
   ·refine CW.bK (X:=Unit) (fun _=>[(0,.pointer (some ⟨g,0,none⟩)),(2,.slice (some aa) m c),(4,.pointer (some ⟨g4,0,none⟩)),(10,.pointer (some ⟨z.g,0,none⟩)),(32,.slice (some aa) m c),(33,.int .i64 (m:Int)),(34,.int .i64 (k:Int))]) (fun _ w0=>aK w0 g TF (jA (fh ns2 0) rb ra (dr (gy ns2 a)))∧aE (fun q=>q=g) w9 w0) ?_ ?_
    ·refine CW.sr fun K24 hK24=>WL.m rfl<|WL.v (Y.nilCheck rfl)<|WL.v (Y.fieldAddr jc rfl)<|WL.v (Y.ah underlying4 rfl hzb9.mem.nV rfl)<|WL.v (Y.not rfl)<|WL.nil (hK24 _ _ ?_);clear hK24;refine bp ?_ ?_<;>intro ht25
     ·refine CW.region<|WL.m rfl<|WL.v (Y.nilCheck rfl)<|WL.v (Y.fieldAddr eL rfl)<|WL.v (Y.ah underlying3 rfl hT9.bY.mem.lV rfl)<|WL.v (Y.sub rfl rfl bB)<|WL.v (Y.nilCheck rfl)<|WL.v (Y.fieldAddr eL rfl)<|WL.store (g:=g) (pre:=[.pointer (some ⟨fh ns2 0,0,none⟩),.map (some rb),.map (some ra)]) (old:=[.int .i64 (dr ns2:Int)]) (post:=[]) (new:=[.int .i64 ((dr ns2:Int)-1)]) rfl rfl rfl rfl aG hT9.bY j0 (dd rfl) (fun w10 hc10 hB10_=>?_);have hz10:=hc10.size;have hE:=hE.lf hc10 (fun k h=>(by show(k=g∨k=rb)∨_;omega));have hB4:=hB4.aA hc10 cq;have hB9:=hB9.aA hc10 cq;refine WL.nil ?_;have hlg:=tC hz;have hzg:z.el.gone=false:=by simp_all
      rw [hzg,if_neg aw]at hlg;have e1:((dr (gy ns2 a):Nat):Int)=(dr ns2:Int)-1:=by omega
      exact⟨(),Fr.ok,(by show aK _ _ _ [_,_,_,.int .i64 ((dr (gy ns2 a):Nat):Int)];rw [e1];exact hB10_),hc10⟩
     refine CW.skip ?_;have hlg:=tC hz;have hzg:z.el.gone=true:=by simp_all
     rw [hzg,if_pos rfl]at hlg;exact⟨(),Fr.ok,(by rw [show dr (gy ns2 a)=dr ns2 by omega];exact hT9.bY),aE.refl⟩
    rintro u w11 hj11;obtain⟨hBg11,hc11⟩:=hj11;have hzb11:=hzb9.aA hc11 (fun h=>hzne.1 h);have hB4:=hB4.aA hc11 (fun h=>hg4g h);have hB9:=hB9.aA hc11 cq;refine CW.sr fun K26 hK26=>WL.m rfl<|WL.v (Y.nilCheck rfl)<|WL.v (Y.fieldAddr jc rfl)<|WL.store (g:=z.g) (pre:=aX z.el.name++[bc z.el.byte]) (old:=[.bool z.el.gone]) (post:=[z.lv,z.rv]) (new:=[.bool true]) rfl (by rw [add_zero',List.length_append,ax];rfl) rfl rfl aG (by rw [show aX z.el.name++[bc z.el.byte]++[.bool z.el.gone]++[z.lv,z.rv]=bu z.el z.lv z.rv by simp [bu]];exact hzb11) j0 (dd rfl) (fun w12 hc12 hB12_=>?_);have hz12:=hc12.size;have hB4:=hB4.aA hc12 cq;have hB9:=hB9.aA hc12 cq;refine WL.nil (hK26 _ _ ?_);clear hK26;refine CW.exit ?_;have hCC:aE (fun q=>q=g∨q=z.g) w6 w12:=((Ext.aA (S:=fun q=>q=g∨q=z.g) hx69).trans hc11 (fun q _ h=>.inl h)).trans hc12 (fun q _ h=>.inr h);exact⟨gy ns2 a,Fr.ok,hA.del hz hCC (fun q h=>h) (hBg11.aA hc12 (fun h=>hzne.1 h.symm)) (by rw [show bu {z.el with gone:=true} z.lv z.rv=aX z.el.name++[bc z.el.byte]++[.bool true]++[z.lv,z.rv]by simp [bu]];exact hB12_) ho ha (by assumption)⟩
   refine CW.skip ?_;refine hK20 _ _ ?_;clear hK20;refine CW.sr fun K27 hK27=>WL.v (Y.load underlying42 rfl hB4.mem (aj _) rfl)<|WL.m rfl<|WL.v (Y.add rfl rfl bB)<|WL.v (Y.build rfl (mf _ _ _))<|WL.v (Y.fieldAddr jU rfl)<|WL.v (Y.ah underlying5 rfl hB9.mem.Ip rfl)<|WL.v (Y.build rfl (yb _ _ _))<|WL.box rfl rfl aw fun g69 w13 hx13 hg69 hB69=>?_;have hlt69:=hB69.lt;have hz13:=hx13.size;have hE:=hE.ae hx13;have hB4:=hB4.ext hx13;have hB9:=hB9.ext hx13;refine WL.a rfl<|WL.nil (hK27 _ _ ?_);clear hK27;refine CW.seq fun K28 hK28=>?_;refine CW.head 9 aG aG fun w14 hx14=>?_;skip;have hz14:=hx14.size;have hE:=hE.ae hx14;have hB4:=hB4.ext hx14;have hB9:=hB9.ext hx14;have hB69:=hB69.ext hx14;refine HL.val (Y.move rfl) aw<|HL.val (Y.nilCheck rfl) aw<|HL.val (Y.fieldAddr gO rfl) aw<|HL.val (Y.ah underlying120 rfl ((hT9.ext hx13).ext hx14).bY.mem.jZ rfl) aw<|HL.val (Y.move rfl) aw<|HL.val (Y.nilCheck rfl) aw<|HL.val (Y.fieldAddr cG rfl) aw<|HL.val (Y.load underlying62 rfl hB69.mem.dJ (aT _) rfl) aw<|HL.val (Y.move rfl) aw<|HL.nil<|WL.su (Su.qu (b:=(⟨⟨false,id,(k:Int)+1⟩,g69,clb⟩:BE)) Aj (fun _=>rfl) J9 rfl rfl rfl (((hMb.ext hx69).ext hx13).ext hx14) hnob rfl) fun w15 hR15=>?_;obtain⟨hMb15,hc15⟩:=hR15;have hz15:=hc15.size;have hx6e:Ext w6 w14:=(hx69.ae hx13).ae hx14;have hC15:aE (fun q=>q=g∨q=rb) w6 w15:=(Ext.aA hx6e).trans hc15 (fun q _ h=>.inr h);have hE:=hE.lf hc15 (fun q h=>.inl (.inr h));have hB4:=hB4.aA hc15 (fun h=>hg4r h);have hB9:=hB9.aA hc15 cq;have hB69:=hB69.aA hc15 cq;have hBg15:=(hT2.bY.ext hx6e).aA hc15 (fun h=>hT2.CE.1 h);refine WL.nil (hK28 _ _ ?_);clear hK28;refine CW.sr fun K29 hK29=>WL.m rfl<|WL.v (Y.nilCheck rfl)<|WL.v (Y.fieldAddr eL rfl)<|WL.v (Y.ah underlying3 rfl hBg15.mem.lV rfl)<|WL.v (Y.add rfl rfl bB)<|WL.v (Y.nilCheck rfl)<|WL.v (Y.fieldAddr eL rfl)<|WL.store (g:=g) (pre:=[.pointer (some ⟨fh ns2 0,0,none⟩),.map (some rb),.map (some ra)]) (old:=[.int .i64 (dr ns2:Int)]) (post:=[]) (new:=[.int .i64 ((dr ns2:Int)+1)]) rfl rfl rfl rfl aG hBg15 j0 (dd rfl) (fun w16 hc16 hB16_=>?_);have hz16:=hc16.size;have hE:=hE.lf hc16 (fun k h=>(by show(k=g∨k=rb)∨_;omega));have hB4:=hB4.aA hc16 cq;have hB9:=hB9.aA hc16 cq;have hB69:=hB69.aA hc16 cq;have hBg16:aK w16 g TF (jA (fh ns2 0) rb ra (dr ns2+1)):=hB16_;have hMb16:=hMb15.aA hc16 (fun h=>hT2.CE.1 h.symm);have hC16:aE (fun q=>q=g∨q=rb) w6 w16:=hC15.trans hc16 (fun q _ h=>.inl h);have hzb16:=hzb.aA hC16 (fun h=>by rcases h with h|h;exact hzne.1 h;exact hzne.2.1 h);have hkd16:=(hT2.kids a z o.left hz).aA hC16 (fun q hq h=>by have:=hT2.nR hz hq;rcases h with h|h;exact this.1 h;exact this.2.1 h);obtain⟨hk1,hk2,hk3,hk4⟩:=hT2.yH hG2' hz o.left;refine WL.nil (hK29 _ _ ?_);clear hK29;refine CW.sr fun K30 hK30=>WL.m rfl<|WL.v (Y.nilCheck rfl)<|WL.v (Y.fieldAddr dC rfl)<|WL.a rfl<|WL.nil (hK30 _ _ ?_);clear hK30;refine CW.bK (X:=Unit) (fun _=>[(0,.pointer (some ⟨g,0,none⟩)),(2,.slice (some aa) m c),(4,.pointer (some ⟨g4,0,none⟩)),(11,.pointer (some ⟨g69,0,none⟩)),(12,.pointer (some ((⟨z.g,0,none⟩:Addr).add (cond o.left 36 37)))),(32,.slice (some aa) m c),(33,.int .i64 (m:Int)),(34,.int .i64 (k:Int))]) (fun _ w0=>w0=w16) ?_ ?_
   ·refine CW.sr fun K32 hK32=>WL.v (Y.fieldAddr fB rfl)<|WL.v (Y.ah underlying4 rfl hB9.mem.FQ rfl)<|WL.nil (hK32 _ _ ?_);clear hK32;refine bp ?_ ?_<;>intro ht33
    ·refine CW.region<|WL.m rfl<|WL.v (Y.nilCheck rfl)<|WL.v (Y.fieldAddr dz rfl)<|WL.a rfl<|WL.nil ?_;have hlf:o.left=true:=by assumption
     exact⟨(),(by rw [hlf];exact Fr.ok),rfl⟩
    refine CW.skip ?_;have hlf:o.left=false:=by simp_all
    exact⟨(),(by rw [hlf];exact Fr.ok),rfl⟩
   rintro u w17 hj17;obtain rfl:=hj17;refine CW.sr fun K34 hK34=>WL.m rfl<|WL.v (Y.nilCheck rfl)<|WL.v (Y.ah underlying117 rfl (Mem.He hzb16.mem o.left) rfl)<|WL.m rfl<|WL.call func47 rfl rfl rfl (Gb (z.sv o.left) ((side z.el o.left).map (fh ns2)) g69 ⟨false,id,(k:Int)+1⟩ (py ns2) _ hkd16 ai (fun b hb=>by
     obtain⟨i,y,hy,rfl,_⟩:=hk1 b hb;exact⟨y.el,y.lv,y.rv,(hT2.node i y hy).aA hC16 (fun h=>by have:=hT2.kL hy;rcases h with h|h;exact this.1 h;exact this.2.1 h),(hT2.zD hy).symm⟩) ⟨_,_,_,hB69,rfl⟩ (fun b hb=>by
     obtain⟨i,y,hy,rfl,hi0⟩:=hk1 b hb;have:=hG2'.own i y.el hi0 (by rw [List.getElem?_map,hy];rfl);rw [hT2.zD hy];exact⟨by show _≤y.el.name.n-((k:Int)+1);omega,by show y.el.name.n-((k:Int)+1)≤_;omega⟩) (fun t t' htt b b' hb hb' hlt=>ry.2 (ql (hk4 t t' htt b b' hb hb') (ry.1 hlt)))) aL ?_;rintro v99 w18 hR18
   obtain⟨⟨j,bb,rfl,hj,hj1,hj2⟩,hx18⟩:=hR18;have hkd18:=hkd16.ext hx18;have hzb18:=hzb16.ext hx18;have hBg18:=hBg16.ext hx18;have hMb18:=hMb16.ext hx18;have hB69:=hB69.ext hx18;have hB4:=hB4.ext hx18;have hB9:=hB9.ext hx18;have hz18:=hx18.size;refine WL.m rfl<|WL.v (Y.extract rfl rfl)<|WL.v (Y.extract rfl rfl)<|WL.a rfl<|WL.a rfl<|WL.nil (hK34 _ _ ?_);clear hK34;refine CW.region<|WL.m rfl<|WL.m rfl<|WL.v (Y.nilCheck rfl)<|WL.v (Y.ah underlying117 rfl (Mem.He hzb18.mem o.left) rfl)<|WL.m rfl<|WL.m rfl<|WL.st (St.buildSlice rfl (kP _)) aw fun v108 w19 hR19=>?_;obtain⟨gv,rfl,hgv,hBv,hx19⟩:=hR19;have hz19:=hx19.size;have hkd19:=hkd18.ext hx19;have hkb:∀q,(z.sv o.left).ownBlock=some q→q<w6.heap.size:=fun q hq=>(hT2.kids a z o.left hz).lt q hq;refine WL.call func49 rfl rfl rfl (EF (z.sv o.left) ((side z.el o.left).map (fh ns2)) j g69 gv _ hkd19 hj hBv (fun e=>by have:=hkb gv e;omega) ai) aL ?_;rintro v109 w20 hR20;obtain⟨hO20,hc20,hf20⟩:=hR20;obtain⟨A9,n9,c9,rfl⟩:=hO20.lens;have hz20:=hc20.size;have hkn:=fun q hq=>hT2.nR hz (s:=o.left) (k:=q) hq;have hzb20:=(hzb18.ext hx19).aA hc20 (fun h=>(hkn _ h).2.2.2 a z hz rfl);have hBg20:=(hBg18.ext hx19).aA hc20 (fun h=>(hkn _ h).1 rfl);have hMb20:=(hMb18.ext hx19).aA hc20 (fun h=>(hkn _ h).2.1 rfl);have hB69:=(hB69.ext hx19).aA hc20 (fun h=>by have:=hkb _ h;omega);have hB4:=(hB4.ext hx19).aA hc20 (fun h=>hT2.mS hA.idb (.inr (.inr (.inr ⟨z,List.mem_of_getElem? hz,.inr ⟨_,h⟩⟩))));have hB9:=(hB9.ext hx19).aA hc20 (fun h=>by have:=hkb _ h;omega);refine WL.v (Y.nilCheck rfl)<|WL.store (g:=z.g) (pre:=aX z.el.name++[bc z.el.byte,.bool z.el.gone]++cond o.left [] [z.lv]) (old:=[cond o.left z.lv z.rv]) (post:=cond o.left [z.rv] []) (new:=[.slice A9 n9 c9]) rfl (by rw [add_zero'];cases o.left<;>simp [ax]) rfl rfl aG (by rw [←qE];exact hzb20) j0 (dd rfl) (fun w21 hc21 hB21_=>?_);have hz21:=hc21.size;have hB4:=hB4.aA hc21 cq;have hB9:=hB9.aA hc21 cq;have hB69:=hB69.aA hc21 cq;refine WL.nil ?_;have hC21:aE (fun q=>q=g∨q=rb∨q=z.g∨(z.sv o.left).ownBlock=some q) w6 w21:=((((hC16.mono (T:=fun q=>q=g∨q=rb∨q=z.g∨(z.sv o.left).ownBlock=some q) (fun q _ h=>by rcases h with h|h;exact .inl h;exact .inr (.inl h))).ae hx18).ae hx19).trans hc20 (fun q _ h=>.inr (.inr (.inr h)))).trans hc21 (fun q _ h=>.inr (.inr (.inl h)));have hk1':o.kind=1:=by
    rcases hRO.kind with h|h
    ·exact h.1
    ·exact absurd h.1 (by assumption)
   exact⟨jE ns2 a o.left ⟨false,id,(k:Int)+1⟩ o.byte g69 (.slice A9 n9 c9),Fr.ok,hA.ins hG2' hz ho ha hk1' hnew hC21 (fun q h=>h) ai (hBg20.aA hc21 (fun h=>hzne.1 h.symm))
    (by rw [qE _ _ _ o.left];cases hlf:o.left<;>simp only [hlf]at hB21_⊢<;>exact hB21_) hB69
    (hO20.aA hc21 (fun q hq h=>by
     rcases hf20 with e|e
     ·rw [e]at hq;exact(hkn q hq).2.2.2 a z hz h
     ·have:=e q hq;have h:q=z.g:=h;omega)) (by simpa using hj)
    (fun t c htj hc=>by
     have hb:((side z.el o.left).map (fh ns2))[t]? =some (fh ns2 c):=by rw [List.getElem?_map,hc];rfl
     obtain⟨c',hc',hn⟩:=hk2 t _ hb;rw [hc]at hc';injection hc' with hc';subst hc'
     rw [←hn];exact ry.1 (hj1 t _ htj hb))
    (fun t c htj hc=>by
     have hb:((side z.el o.left).map (fh ns2))[t]? =some (fh ns2 c):=by rw [List.getElem?_map,hc];rfl
     obtain⟨c',hc',hn⟩:=hk2 t _ hb;rw [hc]at hc';injection hc' with hc';subst hc'
     rw [←hn];have h9:=hj2 t _ htj hb;cases hh:cC (py ns2 (fh ns2 c)) ⟨false,id,(k:Int)+1⟩with
     |false=>rfl
     |true=>have:=ry.2 hh;omega)
    (fun q hq=>by
     rcases hf20 with e|e
     ·rw [e]at hq;exact .inl hq
     ·exact .inr (by have:=e q hq;omega))
    ⟨clb,lb,hMb,hb1,hb2,hb3,hb4,hb5,hMb20.aA hc21 (fun h=>hzne.2.1 h.symm)⟩⟩
  rintro u w22 hj22;have hA:=hj22;refine CW.region<|WL.v (Y.add rfl rfl bB)<|WL.m rfl<|WL.nil ?_;exact⟨(k+1,u),(by show m-(k+1)<m-k;omega),Fr.ok,(by show k+1≤m;omega),hA⟩
 refine CW.exit ?_;refine hK12 _ _ ?_;clear hK12;refine CW.sr fun K35 hK35=>WL.a rfl<|WL.nil (hK35 _ _ ?_);clear hK35;refine CW.ret ⟨_,rfl,?_⟩;have hke:k=ops.length:=by omega
 subst hke;have e1:iJ ⟨ad,Fw.aR ns⟩ id ops=⟨ad++[id],jm id ops (Fw.aR ns) ops.length⟩:=by rw [iJ,if_pos hw0]
 exact⟨by rw [hw0],ns2,by rw [e1];exact hA.tree,by rw [e1];exact hA.aR,hA.aA,hA.fresh,hA.same⟩
end Go.Proofs.YtmehkigmnpjcjaaGreatDoor
