/- Parts of a proof: what its last text leans on. No condition. -/
import Derived.Test.YtmehkigmnpjcjaaGreatDoorK22
import Derived.Test.YtmehkigmnpjcjaaGreatDoorK24
set_option linter.unusedSimpArgs false
set_option linter.unusedVariables false
namespace Go.Fw
open Go.Fu Go.Pl
theorem RS.kZ{P:Program}{n:NN}{Φ:Exit→Fr→World→Prop}{fr:Fr}{w:World}{ops:Array Oper}{S:World→Prop}{fuel:Nat}{listed:Array Bool}{ty:TypeId}{i:Nat}{t e:TypeId}{x y:Operand}{pos:String}{aft:Array Edge}{v:Value}{g k m c:Nat}{pre old post new:List Value}{A:Addr}
  (hi:ops[i]? =some ⟨none,.store t x y,ty,pos,aft,none⟩)
  (hx:ev fr x=some (.pointer (some A))) (hA:A=⟨g,pre.length,none⟩) (hy:ev fr y=some v) (hv:v.cells=new.toArray) (hS:(P.info? t).map (·.size)=some new.length)
  (hown:Own w e k (.slice (some ⟨g,0,none⟩) m c) (pre++old++post)) (hl:new.length=old.length) (h1:∀u∈new,u.oneCell'=true)
  (h:∀w',aE (·=g) w w'→Own w' e k (.slice (some ⟨g,0,none⟩) m c) (pre++new++post)→S w'∧RH P ops S n Φ fuel (listed.setIfInBounds i true) fr w'):RS P ops S n Φ fuel listed i fr w:=fun a ha=>by
 obtain⟨w',hst,hc,hb'⟩:=hown.store (P:=P) hl h1;have hrun:(execOp a.eval ⟨none,.store t x y,ty,pos,aft,none⟩).run P w= .ok .skip w':=by
  simp [execOp,ha.ev hx,ha.ev hy,Instr.storeAt,Instr.sureAddr,storeVar,b5 hS,hv,hA,hst]
 obtain⟨h1,h2⟩:=h w' hc hb';unfold wpOp;rw [hi];simp only [Region.wanted,if_true];refine .inl ?_;unfold Oper.wp;rw [hrun];exact⟨h1,h2 _ ha⟩
theorem Own.bY{w:World}{e:TypeId}{k m c:Nat}{A:Option Addr}{xs:List Value}(h:Own w e k (.slice A m c) xs)(hx:xs≠[]):∃g,A=some ⟨g,0,none⟩:=by
 rcases h with⟨_,h⟩|⟨g,_,_,_,_,h,_⟩
 ·exact absurd h hx
 ·injection h with h
  exact⟨g,h⟩
theorem jW{l:List Rn}{a:Nat}{z:Rn}(h:l[a]? =some z):(l.map rC).flatten=((l.take a).map rC).flatten++rC z++((l.drop (a+1)).map rC).flatten:=by
 induction l generalizing a with
 |nil=>simp at h
 |cons y r ih=>
  cases a with
  |zero=>simp at h;subst h;simp
  |succ a=>have:=ih (a:=a) (by simpa using h);simp only [List.map_cons,List.flatten_cons,List.take_succ_cons,List.drop_succ_cons,this,List.append_assoc]
theorem qg{l:List Rn}{a:Nat}{z:Rn}(y:Rn)(h:l[a]? =some z):((l.set a y).map rC).flatten=((l.take a).map rC).flatten++rC y++((l.drop (a+1)).map rC).flatten:=by
 have hl:=(List.getElem?_eq_some_iff.1 h).1;have h2:(l.set a y)[a]? =some y:=by rw [List.getElem?_set_self hl]
 rw [jW h2,List.take_set_of_le (Nat.le_refl _),List.drop_set_of_lt ai]
theorem qk{l:List Rn}{a:Nat}(h:a≤l.length):((l.take a).map rC).flatten.length=a*38:=by
 rw [aO gu,List.length_take,Nat.min_eq_left h]
def Rn.die(z:Rn):Rn:=⟨{z.el with gone:=true},z.lv,z.rv⟩
noncomputable def Rn.more(z:Rn)(e:List El)(s:Bool)(r:aF)(v:Value):Rn:=⟨z.el.more e s r,cond s v z.lv,cond s z.rv v⟩
def Rn.one(r:aF)(b:UInt8):Rn:=⟨⟨r,b,false,[],[]⟩,.slice none 0 0,.slice none 0 0⟩
theorem s8{l:List El}{a:Nat}{x:El}{f:El→El}(h:l[a]? =some x):l.modify a f=l.set a (f x):=by
 refine List.ext_getElem? fun i=>?_;have hl:=(List.getElem?_eq_some_iff.1 h).1;rw [List.getElem?_modify,List.getElem?_set];by_cases e:a=i
 ·subst e;rw [h];simp [hl]
 ·simp [e]
theorem Du{l:List Rn}{a:Nat}{z:Rn}(h:l[a]? =some z):ay (l.set a z.die)=hF (ay l) a:=by
 rw [hF,s8 (x:=z.el) (by rw [List.getElem?_map,h];rfl),ay,List.map_set];rfl
theorem Bn{l:List Rn}{a:Nat}{z:Rn}{s:Bool}{r:aF}{b:UInt8}{v:Value}(h:l[a]? =some z):ay ((l++[Rn.one r b]).set a (z.more (ay l) s r v))=cZ (ay l) a s r b:=by
 have hl:=(List.getElem?_eq_some_iff.1 h).1;rw [cZ,s8 (x:=z.el) (by rw [List.getElem?_append_left (by rw [List.length_map];exact hl),List.getElem?_map,h];rfl),ay,List.map_set,List.map_append];rfl
theorem AO(z:Rn)(e:List El)(s:Bool)(r:aF)(v:Value):rC (z.more e s r v)=bu z.el (cond s v z.lv) (cond s z.rv v):=by
 have h1:(z.el.more e s r).name=z.el.name∧(z.el.more e s r).byte=z.el.byte∧(z.el.more e s r).gone=z.el.gone:=by unfold El.more;split<;>exact⟨rfl,rfl,rfl⟩
 unfold rC Rn.more bu;rw [h1.1,h1.2.1,h1.2.2]
theorem uO(z:El)(e:List El)(s t:Bool)(r:aF):side (z.more e s r) t=if t=s then tX e r (side z s)else side z t:=by
 unfold El.more side;cases s<;>cases t<;>rfl
theorem sx{f f':Nat→Bool}{n:Nat}:∀{l:List Nat},(∀q∈l,f q=f' q)→kz f n l=kz f' n l
 | [],_=>rfl
 |y::r,h=>by
  rw [kz,kz,h y aL,sx fun q hq=>h q (by simp [hq])]
end Go.Fw
namespace Go.Proofs.YtmehkigmnpjcjaaGreatDoor
open Go.RowKit Go.Fw Go.Fu Go.Pl Go.Proofs.Tryz
section
variable {w w':World} {g:Nat} {ad:List aD} {rs:List Rn} {av ev_:Value} {S:Nat→Prop}
theorem ey.set(h:ey w g ad rs av ev_){a:Nat}{y:Rn}(hc:aE S w w')(hS:∀q,S q→ev_.ownBlock=some q)(hO:Own w' tO 38 ev_ (((rs.set a y).map rC).flatten))(hk:∀s,Own w' tH 1 (y.sv s) (fe (side y.el s))):ey w' g ad (rs.set a y) av ev_ where
 bY:=h.bY.aA hc fun e=>h.ne.2.1 g (hS _ e) rfl
 ads:=h.ads.aA hc fun k hk e=>(h.ne.1 k hk).2 (hS _ e)
 es:=hO
 kids x hx s:=by
  rcases List.mem_or_eq_of_mem_set hx with hx|rfl
  ·exact(h.kids x hx s).aA hc fun k hk e=>(h.ne.2.2 x hx s k hk).2.2 (hS _ e)
  ·exact hk s
theorem ey.push(h:ey w g ad rs av ev_){y:Rn}{ev':Value}(hc:aE S w w')(hS:∀q,S q→q=g∨ev_.ownBlock=some q)(hb:aK w' g H7 [av,ev'])(hO:Own w' tO 38 ev' (((rs++[y]).map rC).flatten))(hk:∀s,Own w' tH 1 (y.sv s) (fe (side y.el s))):ey w' g ad (rs++[y]) av ev' where
 bY:=hb
 ads:=h.ads.aA hc fun k hk e=>by
  rcases hS _ e with e|e
  ·exact(h.ne.1 k hk).1 e
  ·exact(h.ne.1 k hk).2 e
 es:=hO
 kids x hx s:=by
  rcases List.mem_append.1 hx with hx|hx
  ·exact(h.kids x hx s).aA hc fun k hk e=>by
    rcases hS _ e with e|e
    ·exact(h.ne.2.2 x hx s k hk).1 e
    ·exact(h.ne.2.2 x hx s k hk).2.2 e
  ·simp at hx;subst hx;exact hk s
theorem ey.Fe(h:ey w g ad rs av ev_){ad':List aD}{av':Value}(hc:aE S w w')(hS:∀q,S q→q=g∨av.ownBlock=some q)(hb:aK w' g H7 [av',ev_])(hO:Own w' Ik 32 av' (cn ad')):ey w' g ad' rs av' ev_ where
 bY:=hb
 ads:=hO
 es:=h.es.aA hc fun k hk e=>by
  rcases hS _ e with e|e
  ·exact h.ne.2.1 k hk e
  ·exact(h.ne.1 k e).2 hk
 kids x hx s:=(h.kids x hx s).aA hc fun k hk e=>by
  rcases hS _ e with e|e
  ·exact(h.ne.2.2 x hx s k hk).1 e
  ·exact(h.ne.2.2 x hx s k hk).2.1 e
theorem Rp.Hu{a:Nat}{y:Rn}{q:Nat}(h:Rp g (rs.set a y) av ev_ q):Rp g rs av ev_ q∨∃s,(y.sv s).ownBlock=some q:=by
 rcases h with h|h|h|⟨x,hx,s,h⟩
 ·exact .inl (.inl h)
 ·exact .inl (.inr (.inl h))
 ·exact .inl (.inr (.inr (.inl h)))
 ·rcases List.mem_or_eq_of_mem_set hx with hx|rfl
  ·exact .inl (.inr (.inr (.inr ⟨x,hx,s,h⟩)))
  ·exact .inr ⟨s,h⟩
theorem Rp.IK{y:Rn}{ev':Value}{q:Nat}(h:Rp g (rs++[y]) av ev' q):Rp g rs av ev_ q∨ev'.ownBlock=some q∨∃s,(y.sv s).ownBlock=some q:=by
 rcases h with h|h|h|⟨x,hx,s,h⟩
 ·exact .inl (.inl h)
 ·exact .inl (.inr (.inl h))
 ·exact .inr (.inl h)
 ·rcases List.mem_append.1 hx with hx|hx
  ·exact .inl (.inr (.inr (.inr ⟨x,hx,s,h⟩)))
  ·simp at hx;subst hx;exact .inr (.inr ⟨s,h⟩)
end
structure sg(w w0:World)(g:Nat)(ad:List aD)(rs:List Rn)(av ev_:Value)(id:aD)(ops:List ct)(g4:Nat)(k:Nat)(t:List Rn×Value×Value):Prop where
 tree:ey w0 g (ad++[id]) t.1 t.2.1 t.2.2
 aR:ay t.1=jm id ops (ay rs) k
 aA:aE (Rp g rs av ev_) w w0
 fresh:∀q,Rp g t.1 t.2.1 t.2.2 q→Rp g rs av ev_ q∨w.heap.size≤q
 idb:aK w0 g4 Ik (aN id)
 idn:¬Rp g t.1 t.2.1 t.2.2 g4
section
variable {w w0 w1 w':World} {g:Nat} {ad:List aD} {rs rs2:List Rn} {av ev_ av2 ev2 ev3:Value} {id:aD} {ops:List ct} {g4 k a:Nat} {z:Rn} {o:ct}
theorem sg.del{gE:Nat}(h:sg w w0 g ad rs av ev_ id ops g4 k (rs2,av2,ev2))(hx:Ext w0 w1)(hc:aE (fun q=>q=gE) w1 w')(hgE:ev2.ownBlock=some gE)(hz:rs2[a]? =some z)(hO:Own w' tO 38 ev2 (((rs2.set a z.die).map rC).flatten))(ho:ops[k]? =some o)(ha:kX (ay rs2) (res id o.at_)=some a)(hk:o.kind=2):sg w w' g ad rs av ev_ id ops g4 (k+1) (rs2.set a z.die,av2,ev2) where
 tree:=by
  have hT:ey w0 g (ad++[id]) rs2 av2 ev2:=h.tree;refine(hT.ext hx).set hc (fun q e=>by rw [e];exact hgE) hO fun s=>?_
  have h1:=((hT.kids z (List.mem_of_getElem? hz) s).ext hx).aA hc fun q hq e=>(hT.ne.2.2 z (List.mem_of_getElem? hz) s q hq).2.2 (by rw [e];exact hgE);cases s<;>exact h1
 aR:=by
  have he:ay rs2=jm id ops (ay rs) k:=h.aR;show ay (rs2.set a z.die)=_;rw [Du hz,nc ho,←he,pg ha hk]
 aA:=h.aA.lf ((Ext.aA hx).trans hc fun q _ e=>e) fun q hq=>h.fresh q (.inr (.inr (.inl (by rw [show q=gE from hq];exact hgE))))
 fresh q hq:=by
  rcases Rp.Hu hq with hq|⟨s,hq⟩
  ·exact h.fresh q hq
  ·exact h.fresh q (.inr (.inr (.inr ⟨z,List.mem_of_getElem? hz,s,by cases s<;>exact hq⟩)))
 idb:=(h.idb.ext hx).aA hc fun e=>h.idn (.inr (.inr (.inl (by rw [e];exact hgE))))
 idn hq:=by
  rcases Rp.Hu hq with hq|⟨s,hq⟩
  ·exact h.idn hq
  ·exact h.idn (.inr (.inr (.inr ⟨z,List.mem_of_getElem? hz,s,by cases s<;>exact hq⟩)))
theorem sg.ins{v:Value}(h:sg w w0 g ad rs av ev_ id ops g4 k (rs2,av2,ev2))(hc:aE (fun q=>q=g∨ev2.ownBlock=some q) w0 w')(hz:rs2[a]? =some z)(hT:ey w' g (ad++[id]) ((rs2++[Rn.one ⟨false,id,(k:Int)+1⟩ o.byte]).set a (z.more (ay rs2) o.left ⟨false,id,(k:Int)+1⟩ v)) av2 ev3)
  (he:∀q,ev3.ownBlock=some q→ev2.ownBlock=some q∨w0.heap.size≤q) (hv:∀q,v.ownBlock=some q→w0.heap.size≤q) (ho:ops[k]? =some o) (ha:kX (ay rs2) (res id o.at_)=some a) (hk:o.kind=1):
  sg w w' g ad rs av ev_ id ops g4 (k+1) ((rs2++[Rn.one ⟨false,id,(k:Int)+1⟩ o.byte]).set a (z.more (ay rs2) o.left ⟨false,id,(k:Int)+1⟩ v),av2,ev3):=by
 have hsub:∀q,Rp g ((rs2++[Rn.one ⟨false,id,(k:Int)+1⟩ o.byte]).set a (z.more (ay rs2) o.left ⟨false,id,(k:Int)+1⟩ v)) av2 ev3 q→Rp g rs2 av2 ev2 q∨w0.heap.size≤q:=fun q hq=>by
  rcases Rp.Hu hq with hq|⟨s,hq⟩
  ·rcases Rp.IK (ev_:=ev2) hq with hq|hq|⟨s,hq⟩
   ·exact .inl hq
   ·rcases he q hq with hq|hq
    ·exact .inl (.inr (.inr (.inl hq)))
    ·exact .inr hq
   ·cases s<;>simp [Rn.one,Rn.sv,Value.ownBlock]at hq
  ·have h2:v.ownBlock=some q∨(z.sv s).ownBlock=some q:=by
    revert hq;unfold Rn.more Rn.sv;cases s<;>cases o.left<;>intro hq<;>first|exact .inl hq|exact .inr hq
   rcases h2 with h2|h2
   ·exact .inr (hv q h2)
   ·exact .inl (.inr (.inr (.inr ⟨z,List.mem_of_getElem? hz,s,h2⟩)))
 have hls:=h.idb.lt;exact{
  tree:=hT
  aR:=by
   have he:ay rs2=jm id ops (ay rs) k:=h.aR;show ay _=_;rw [Bn hz,nc ho,←he,oZ ha hk]
  aA:=h.aA.lf hc fun q hq=>h.fresh q (by
   rcases hq with hq|hq
   ·exact .inl hq
   ·exact .inr (.inr (.inl hq)))
  fresh:=fun q hq=>by
   rcases hsub q hq with hq|hq
   ·exact h.fresh q hq
   ·have:=h.aA.size;exact .inr ai
  idb:=h.idb.aA hc fun e=>h.idn (by
   rcases e with hq|hq
   ·exact .inl hq
   ·exact .inr (.inr (.inl hq)))
  idn:=fun hq=>by
   rcases hsub g4 hq with hq|hq
   ·exact h.idn hq
   ·omega}
theorem AR{r:aF}{b:UInt8}{l:List Nat}(hl:∀q∈l,q<rs2.length):kz (fun q=>cC (nm (ay (rs2++[Rn.one r b])) rs2.length) (nm (ay (rs2++[Rn.one r b])) q)) rs2.length l=tX (ay rs2) r l:=by
 have hel:(ay rs2).length=rs2.length:=List.length_map _;rw [tX,hel];refine sx fun q hq=>?_;have h1:nm (ay (rs2++[Rn.one r b])) rs2.length=r:=by
  rw [nm,List.getElem?_map,List.getElem?_append_right (Nat.le_refl _)];simp [Rn.one]
 have h2:nm (ay (rs2++[Rn.one r b])) q=nm (ay rs2) q:=by
  rw [nm,nm,List.getElem?_map,List.getElem?_append_left (hl q hq),←List.getElem?_map]
 rw [h1,h2]
theorem B8{e:List El}{z:El}(hG:Fu.Good e)(hze:e[a]? =some z)(s:Bool):(side z s).length≤e.length:=by
 have hside:∀c∈side z s,c<e.length:=fun c hcm=>by
  have:=hG.down a z hze c (by unfold side at hcm;cases s<;>first|exact .inr hcm|exact .inl hcm);omega
 have hsort:C2 (qN e (side z s)):=by
  have:=hG.sort a z hze;cases s
  ·exact this.2
  ·exact this.1
 have hnd:(side z s).Nodup:=by
  have:(side z s).Pairwise fun x y=>cC (nm e x) (nm e y)=true:=List.pairwise_map.1 hsort;exact this.imp fun{x y} hlt e=>by rw [e,kh]at hlt;cases hlt
 have:=vW (fun _=>1) (l:=side z s) (m:=List.range e.length) hnd fun c hc=>List.mem_range.2 (hside c hc);have hcn:∀l:List Nat,(l.map fun _=>1).sum=l.length:=fun l=>by
  induction l with
  |nil=>rfl
  |cons x r ih=>simp only [List.map_cons,List.sum_cons,ih,List.length_cons];omega
 rwa [hcn,hcn,List.length_range]at this
theorem ED(r:aF)(b:UInt8):∀u∈rC (Rn.one r b),u.oneCell'=true:=Ch rfl rfl
end
abbrev Jy:=underlying25
abbrev JD:=underlying111
set_option maxRecDepth 100000 in
set_option maxHeartbeats 4000000 in
theorem DD(g:Nat)(ad:List aD)(rs:List Rn)(av ev_:Value)(id:aD)(u:Value)(ops:List ct)(L:kR)(w:World)(hR:ey w g ad rs av ev_)(hL:fI L ⟨ad,ay rs⟩)(had:ad.length<4398046511104)(hl:Sl w eM 37 u ops)(hb:ops≠[]→∀k,u.ownBlock=some k→k<w.heap.size∧¬Rp g rs av ev_ k):Calls prog 39 #[.pointer (some ⟨g,0,none⟩),cU id,u] w (cB fun v w'=>v= .int .i64 (di ⟨ad,ay rs⟩ id ops)∧∃rs' av' ev',ey w' g (iJ ⟨ad,ay rs⟩ id ops).ad rs' av' ev'∧ay rs'=(iJ ⟨ad,ay rs⟩ id ops).e∧aE (Rp g rs av ev_) w w'∧∀q,Rp g rs' av' ev' q→Rp g rs av ev_ q∨w.heap.size≤q):=by
 have hlo:∀k,Rp g rs av ev_ k→k<w.heap.size:=fun k hk=>hR.lt hk;have hav:∀k,av.ownBlock=some k→k<w.heap.size:=fun k hk=>hlo k (.inr (.inl hk));have hev:∀k,ev_.ownBlock=some k→k<w.heap.size:=fun k hk=>hlo k (.inr (.inr (.inl hk)));have hkv:∀x∈rs,∀s k,(x.sv s).ownBlock=some k→k<w.heap.size:=fun x hx s k hk=>hlo k (.inr (.inr (.inr ⟨x,hx,s,hk⟩)));have hg0:=hR.bY.lt;have hG:=hL.eX;have hel:(ay rs).length=rs.length:=List.length_map _;have hn:rs.length≤400001:=by have:=hL.G8;have h2:(ay rs).length≤400001:=this;omega
 obtain⟨A,m,c,rfl,hm,hmc,hcm,_⟩:=_root_.id hl;unfold maxLen at hcm;have hlo2:=hl;have hRo:=hR;refine ar 127 [6] [(0,.pointer (some ⟨g,0,none⟩)),(1,cU id),(2,.slice A m c)] func39 rfl rfl rfl aL iI ?_;have hE:Ext w w:=aE.refl;refine CW.sr fun K1 hK1=>WL.box rfl rfl aw fun g4 w1 hx1 hg4 hB4=>?_;have hlt4:=hB4.lt;have hz1:=hx1.size;have hE:=hE.ae hx1;refine WL.a rfl<|WL.nil (hK1 _ _ ?_);clear hK1;refine CW.sr fun K2 hK2=>WL.m rfl<|WL.v (Y.load underlying42 rfl hB4.mem (aj _) rfl)<|WL.m rfl<|WL.call func66 rfl rfl rfl (zX g ad rs av ev_ id _ ops _ (hRo.ext hE) hn (hlo2.ext hE)) aL ?_;rintro v w2 ⟨rfl,hx2⟩;have hz2:=hx2.size;have hE:=hE.ae hx2;have hB4:=hB4.ext hx2;refine WL.a rfl<|WL.nil (hK2 _ _ ?_);clear hK2;refine CW.seq fun K3 hK3=>CW.sr fun K4 hK4=>WL.m rfl<|WL.v (Y.neq rfl rfl)<|WL.nil (hK4 _ _ ?_);clear hK4;refine bp ?_ ?_<;>intro ht5
 ·refine CW.sr fun K6 hK6=>WL.m rfl<|WL.a rfl<|WL.nil (hK6 _ _ ?_);clear hK6;refine CW.ret ⟨_,rfl,?_⟩;exact⟨rfl,rs,av,ev_,by rw [iJ,if_neg (by assumption)];exact hRo.ext hE,by rw [iJ,if_neg (by assumption)],Ext.aA hE,fun q hq=>.inl hq⟩
 refine CW.skip ?_;refine hK3 _ _ ?_;clear hK3;have hw0:di ⟨ad,ay rs⟩ id ops=0:=Decidable.not_not.1 (by assumption);obtain⟨hnid,hl2,hcnt,hwn⟩:=kK hw0;have hcnt:fF ops+(rs.length-1)≤400000:=by rw [←hel];exact hcnt
 have hidL:id∉L.map (·.1):=by have:=hL.ads;rw [←show ad=L.map (·.1)from this];exact hnid
 refine CW.bK (X:=Value) (fun v=>[(0,.pointer (some ⟨g,0,none⟩)),(2,.slice A m c),(4,.pointer (some ⟨g4,0,none⟩))]) (fun v w0=>sg w w0 g ad rs av ev_ id ops g4 0 (rs,v,ev_)) ?_ ?_
 ·refine CW.held (fun wq=>aE (fun q=>q=g∨av.ownBlock=some q) w2 wq) aG 11 rfl fun w3 hx3=>?_;have hS:aE (fun q=>q=g∨av.ownBlock=some q) w2 w3:=Ext.aA hx3;have hz3:=hx3.size;have hE:=hE.ae hx3;have hB43:=hB4.ext hx3;have h4n:¬(g4=g∨av.ownBlock=some g4):=fun h=>by
   rcases h with h|h
   ·omega
   ·have:=hav _ h;omega
  refine RH.tk 0 hS rfl (fun wq hq=>Y.move rfl)<|RH.tk 1 hS rfl (fun wq hq=>Y.move rfl)<|RH.tk 2 hS rfl (fun wq hq=>Y.nilCheck rfl)<|RH.tk 3 hS rfl (fun wq hq=>Y.fieldAddr dQ rfl)<|RH.tk 5 hS rfl (fun wq hq=>Y.load underlying42 rfl (hB4.aA hq h4n).mem (aj _) rfl)<|RH.two 4 6 aG ?_ ?_
  ·refine RS.val rfl (Y.ah underlying25 rfl ((hRo.ext hE).bY.mem.gF) rfl) aw ⟨hS,?_⟩;refine RH.one 6 aG ?_;refine RS.st rfl (St.buildSlice rfl (kI id)) aw fun v25 w4 hR4=>?_;obtain⟨g25,rfl,hg25,hB25,hx4⟩:=hR4;have hz4:=hx4.size;have hE4:Ext w w4:=hE.ae hx4;have hB4:=hB43.ext hx4;have hS:aE (fun q=>q=g∨av.ownBlock=some q) w2 w4:=hS.ae hx4;refine⟨hS,?_⟩;refine RH.one 7 aG ?_;refine RS.st rfl (St.append (m:=1) (news:=aN id) Jy Jy fR rfl rfl (hRo.ext hE4).ads (Fw.Src.one hB25 (ag id)) bV (by rw [aO ag];omega)) aw fun v26 w5 hR5=>?_;obtain⟨hO5,hc5,hf5⟩:=hR5;have hz5:=hc5.size;obtain⟨A5,m5,c5,rfl⟩:=hO5.lens;have hB4:=hB4.aA hc5 (fun h=>by have:=hav _ h;omega);have hS:aE (fun q=>q=g∨av.ownBlock=some q) w2 w5:=hS.trans hc5 (fun q _ h=>.inr h);refine⟨hS,?_⟩;refine RH.tk 8 hS rfl (fun wq hq=>Y.nilCheck rfl)<|RH.tk 9 hS rfl (fun wq hq=>Y.fieldAddr dQ rfl)<|RH.one 10 aG ?_;refine RS.store rfl (g:=g) (pre:=[]) (old:=[av]) (post:=[ev_]) (new:=[.slice A5 m5 c5]) rfl rfl rfl rfl aG ((hRo.ext hE4).bY.aA hc5 (fun h=>(hRo.ne.1 g h).1 rfl)) rfl (dd rfl) (fun w6 hc6 hB6_=>?_);have hB4:=hB4.aA hc6 cq;have hS:aE (fun q=>q=g∨av.ownBlock=some q) w2 w6:=hS.trans hc6 (fun q _ h=>.inl h);have hz6:=hc6.size;have hC6:aE (fun q=>q=g∨av.ownBlock=some q) w w6:=((Ext.aA hE4).trans hc5 (fun q _ h=>.inr h)).trans hc6 (fun q _ h=>.inl h);have hO6:Own w6 Ik 32 (.slice A5 m5 c5) (cn (ad++[id])):=by
    have h9:=hO5.aA hc6 (fun q hq e=>by
     rcases hf5 with h|h
     ·rw [h]at hq;exact(hRo.ne.1 q hq).1 e
     ·have:=h q hq;omega)
    simpa [cn]using h9
   have hf6:∀q,(Value.slice A5 m5 c5).ownBlock=some q→av.ownBlock=some q∨w4.heap.size≤q:=fun q hq=>by
    rcases hf5 with h|h
    ·rw [h]at hq;exact .inl hq
    ·exact .inr (h q hq)
   have hA:sg w w6 g ad rs av ev_ id ops g4 0 (rs,.slice A5 m5 c5,ev_):={
    tree:=hRo.Fe hC6 (fun q h=>h) hB6_ hO6
    aR:=rfl
    aA:=hC6.mono fun q _ h=>by
     rcases h with h|h
     ·exact .inl h
     ·exact .inr (.inl h)
    fresh:=fun q hq=>by
     rcases hq with h|h|h
     ·exact .inl (.inl h)
     ·rcases hf6 q h with h|h
      ·exact .inl (.inr (.inl h))
      ·exact .inr ai
     ·exact .inl (.inr (.inr h))
    idb:=hB4
    idn:=fun hq=>by
     rcases hq with h|h|h|⟨x,hx,s,h⟩
     ·omega
     ·rcases hf6 _ h with h|h
      ·have:=hav _ h;omega
      ·omega
     ·have:=hev _ h;omega
     ·have:=hkv x hx s _ h;omega}
   refine⟨hS,?_⟩;refine RH.done aG ?_;exact⟨.slice A5 m5 c5,Fr.ok,hA⟩
  ·refine RS.st rfl (St.buildSlice rfl (kI id)) aw fun v25 w7 hR7=>?_;obtain⟨g25,rfl,hg25,hB25,hx4⟩:=hR7;have hz4:=hx4.size;have hE4:Ext w w7:=hE.ae hx4;have hB4:=hB43.ext hx4;have hS:aE (fun q=>q=g∨av.ownBlock=some q) w2 w7:=hS.ae hx4;refine⟨hS,?_⟩;refine RH.one 4 aG ?_;refine RS.val rfl (Y.ah underlying25 rfl ((hRo.ext hE4).bY.mem.gF) rfl) aw ⟨hS,?_⟩;refine RH.one 7 aG ?_;refine RS.st rfl (St.append (m:=1) (news:=aN id) Jy Jy fR rfl rfl (hRo.ext hE4).ads (Fw.Src.one hB25 (ag id)) bV (by rw [aO ag];omega)) aw fun v26 w8 hR8=>?_;obtain⟨hO5,hc5,hf5⟩:=hR8;have hz5:=hc5.size;obtain⟨A5,m5,c5,rfl⟩:=hO5.lens;have hB4:=hB4.aA hc5 (fun h=>by have:=hav _ h;omega);have hS:aE (fun q=>q=g∨av.ownBlock=some q) w2 w8:=hS.trans hc5 (fun q _ h=>.inr h);refine⟨hS,?_⟩;refine RH.tk 8 hS rfl (fun wq hq=>Y.nilCheck rfl)<|RH.tk 9 hS rfl (fun wq hq=>Y.fieldAddr dQ rfl)<|RH.one 10 aG ?_;refine RS.store rfl (g:=g) (pre:=[]) (old:=[av]) (post:=[ev_]) (new:=[.slice A5 m5 c5]) rfl rfl rfl rfl aG ((hRo.ext hE4).bY.aA hc5 (fun h=>(hRo.ne.1 g h).1 rfl)) rfl (dd rfl) (fun w9 hc9 hB9_=>?_);have hB4:=hB4.aA hc9 cq;have hS:aE (fun q=>q=g∨av.ownBlock=some q) w2 w9:=hS.trans hc9 (fun q _ h=>.inl h);have hz6:=hc9.size;have hC6:aE (fun q=>q=g∨av.ownBlock=some q) w w9:=((Ext.aA hE4).trans hc5 (fun q _ h=>.inr h)).trans hc9 (fun q _ h=>.inl h);have hO6:Own w9 Ik 32 (.slice A5 m5 c5) (cn (ad++[id])):=by
    have h9:=hO5.aA hc9 (fun q hq e=>by
     rcases hf5 with h|h
     ·rw [h]at hq;exact(hRo.ne.1 q hq).1 e
     ·have:=h q hq;omega)
    simpa [cn]using h9
   have hf6:∀q,(Value.slice A5 m5 c5).ownBlock=some q→av.ownBlock=some q∨w7.heap.size≤q:=fun q hq=>by
    rcases hf5 with h|h
    ·rw [h]at hq;exact .inl hq
    ·exact .inr (h q hq)
   have hA:sg w w9 g ad rs av ev_ id ops g4 0 (rs,.slice A5 m5 c5,ev_):={
    tree:=hRo.Fe hC6 (fun q h=>h) hB9_ hO6
    aR:=rfl
    aA:=hC6.mono fun q _ h=>by
     rcases h with h|h
     ·exact .inl h
     ·exact .inr (.inl h)
    fresh:=fun q hq=>by
     rcases hq with h|h|h
     ·exact .inl (.inl h)
     ·rcases hf6 q h with h|h
      ·exact .inl (.inr (.inl h))
      ·exact .inr ai
     ·exact .inl (.inr (.inr h))
    idb:=hB4
    idn:=fun hq=>by
     rcases hq with h|h|h|⟨x,hx,s,h⟩
     ·omega
     ·rcases hf6 _ h with h|h
      ·have:=hav _ h;omega
      ·omega
     ·have:=hev _ h;omega
     ·have:=hkv x hx s _ h;omega}
   refine⟨hS,?_⟩;refine RH.done aG ?_;exact⟨.slice A5 m5 c5,Fr.ok,hA⟩
 rintro u w10 hj10;have hA:=hj10;refine CW.seq fun K7 hK7=>CW.sr fun K8 hK8=>WL.a rfl<|WL.nil (hK8 _ _ ?_);clear hK8;refine CW.block ?_;refine CW.loop (X:=Nat×List Rn×Value×Value) (fun x=>[(0,.pointer (some ⟨g,0,none⟩)),(2,.slice A m c),(4,.pointer (some ⟨g4,0,none⟩)),(8,.int .i64 (x.1:Int))]) (fun x w0=>x.1≤m∧sg w w0 g ad rs av ev_ id ops g4 x.1 x.2) (fun x=>m-x.1) (0,rs,u,ev_) Fr.ok ⟨Nat.zero_le _,hA⟩ ?_;intro x w11 hl11;obtain⟨k,rs2,av2,ev2⟩:=x;dsimp only at hl11⊢;obtain⟨hkm,hA⟩:=hl11;have hT2:ey w11 g (ad++[id]) rs2 av2 ev2:=hA.tree;have hE:Ext w11 w11:=aE.refl;have hz07:=hA.aA.size;have hB4:=hA.idb;have hg4b:=hB4.lt;have hlk:=hlo2.G0 hA.aA (fun h0 q hq=>(hb h0 q hq).2);obtain⟨hG2,hB2,hn2⟩:=ld hG hL.built hidL hl2 hwn k ai;have hels:ay rs2=jm id ops (ay rs) k:=hA.aR;have hG2':Fu.Good (ay rs2):=by rw [hels];exact hG2
 have hel2:(ay rs2).length=rs2.length:=List.length_map _;have hn2':rs2.length=rs.length+fF (ops.take k):=by rw [←hel2,hels,hn2,hel]
 have hpos:=hG.pos;rw [hel]at hpos;have hn3:rs2.length≤400001:=by
  have h1:fF (ops.take k)≤fF ops:=List.Sublist.countP_le (List.take_sublist k ops);omega
 refine CW.seq fun K9 hK9=>CW.sr fun K10 hK10=>WL.m rfl<|WL.m rfl<|WL.v (Y.aq underlying27 rfl)<|WL.v (Y.lss rfl rfl)<|WL.nil (hK10 _ _ ?_);clear hK10;refine bp ?_ ?_<;>intro ht11
 ·refine CW.skip ?_;refine hK9 _ _ ?_;clear hK9;obtain⟨o,ho⟩:∃o,ops[k]? =some o:=⟨_,List.getElem?_eq_getElem ai⟩;obtain⟨aa,rfl,hma⟩:=hlk.get ho;have hwo:=gh hwn ho;have hRO:=j2 ho (eB hwo).1;obtain⟨a,ha⟩:∃a,kX (ay rs2) (res id o.at_)=some a:=by rw [hels];exact pJ hL.built hB2 ho hwo
  have hal:=vR ha;rw [List.length_map]at hal;obtain⟨z,hz⟩:∃z,rs2[a]? =some z:=⟨_,List.getElem?_eq_getElem hal⟩;have hzm:=List.mem_of_getElem? hz;have hfv:pq (ay rs2) (res id o.at_)=(a:Int):=by rw [pq,ha]
  obtain⟨EA,em,ec,rfl⟩:=hT2.es.lens;obtain⟨gE,rfl⟩:=hT2.es.bY (by rw [jW hz];simp [rC,bu]);obtain⟨hem,hec⟩:rs2.length=em∧em≤ec:=by
   obtain⟨A',m',c',e,h1,h2,_⟩:=hT2.sl;injection e with e1 e2 e3
   exact bB
  subst hem;have hgE:(Value.slice (some ⟨gE,0,none⟩) rs2.length ec).ownBlock=some gE:=rfl;have hze:(ay rs2)[a]? =some z.el:=by rw [List.getElem?_map,hz];rfl
  have hside:∀s,∀q∈side z.el s,q<rs2.length:=fun s q hq=>by
   have:=hG2'.down a z.el hze q (by unfold side at hq;cases s<;>first|exact .inr hq|exact .inl hq);have h2:(ay rs2).length=rs2.length:=List.length_map _;omega
  refine CW.bK (X:=List Rn×Value×Value) (fun _=>[(0,.pointer (some ⟨g,0,none⟩)),(2,.slice (some aa) m c),(4,.pointer (some ⟨g4,0,none⟩)),(8,.int .i64 (k:Int))]) (fun t w0=>sg w w0 g ad rs av ev_ id ops g4 (k+1) t) ?_ ?_
  ·refine CW.block<|CW.sr fun K13 hK13=>WL.m rfl<|WL.m rfl<|WL.v (Y.af underlying27 rfl rfl bQ ai)<|WL.v (Y.fieldAddr bE rfl)<|WL.v (Y.load underlying62 rfl hma.oo (aT _) rfl) ?_;refine jQ rfl aL aw fun g9 w12 hx12 hg9 hB9=>?_;have hlt9:=hB9.lt;have hz12:=hx12.size;have hE:=hE.ae hx12;have hB4:=hB4.ext hx12;refine WL.nil (hK13 _ _ ?_);clear hK13;refine CW.bK (X:=Unit) (fun _=>[(0,.pointer (some ⟨g,0,none⟩)),(9,.pointer (some ⟨g9,0,none⟩)),(2,.slice (some aa) m c),(4,.pointer (some ⟨g4,0,none⟩)),(8,.int .i64 (k:Int))]) (fun _ w0=>Ext w11 w0∧aK w0 g9 62 (aX (res id o.at_))) ?_ ?_
   ·refine CW.sr fun K15 hK15=>WL.v (Y.fieldAddr fU rfl)<|WL.v (Y.ah underlying4 rfl hB9.mem.yo rfl)<|WL.nil (hK15 _ _ ?_);clear hK15;refine bp ?_ ?_<;>intro ht16
    ·refine CW.region<|WL.v (Y.load underlying42 rfl hB4.mem (aj _) rfl)<|WL.v (Y.fieldAddr bF rfl)<|WL.v (Y.ah underlying3 rfl hB9.mem.iR rfl)<|WL.v (Y.build rfl (mf _ _ _))<|WL.store (g:=g9) (pre:=[]) (old:=aX o.at_) (post:=[]) (new:=aX ⟨false,id,o.at_.n⟩) rfl rfl rfl rfl (aT _) (by simpa using hB9) (by simp only [ax]) (dN) (fun w13 hc13 hB13_=>?_);have hz13:=hc13.size;have hE:=hE.step hc13 (fun k h=>by omega);have hB4:=hB4.aA hc13 cq;refine WL.nil ?_;exact⟨(),Fr.ok,hE,(by rw [res,if_pos (by simp_all)];simpa using hB13_)⟩
    refine CW.skip ?_;exact⟨(),Fr.ok,hE,(by rw [res,if_neg (by simp_all)];exact hB9)⟩
   rintro u w14 hj14;obtain⟨hE,hB9⟩:=hj14;have hz14:=hE.size;have hB4:=hA.idb.ext hE;refine CW.sr fun K17 hK17=>WL.m rfl<|WL.v (Y.load underlying62 rfl hB9.mem (aT _) rfl)<|WL.call func67 rfl rfl rfl (vh g (ad++[id]) rs2 av2 _ (res id o.at_) _ (hT2.ext hE) hn3) aL ?_;rintro v w15 ⟨rfl,hx15⟩;have hz15:=hx15.size;have hE:=hE.ae hx15;have hB4:=hB4.ext hx15;rw [hfv];refine WL.a rfl<|WL.nil (hK17 _ _ ?_);clear hK17;refine CW.seq fun K18 hK18=>CW.sr fun K19 hK19=>WL.m rfl<|WL.m rfl<|WL.v (Y.af underlying27 rfl rfl bQ ai)<|WL.v (Y.fieldAddr dg rfl)<|WL.v (Y.ah underlying3 rfl ((hma.ext hE).yr) rfl)<|WL.v (Y.eql rfl rfl)<|WL.nil (hK19 _ _ ?_);clear hK19;refine bp ?_ ?_<;>intro ht20
   ·refine CW.sr fun K21 hK21=>WL.m rfl<|WL.v (Y.nilCheck rfl)<|WL.v (Y.fieldAddr aI rfl)<|WL.v (Y.ah underlying111 rfl ((hT2.ext hE).bY.mem.aP) rfl)<|WL.m rfl<|WL.v (Y.af underlying111 rfl rfl aV ai)<|WL.v (Y.fieldAddr iH rfl)<|WL.kZ (g:=gE) (pre:=((rs2.take a).map rC).flatten++(aX z.el.name++[bc z.el.byte])) (old:=[.bool z.el.gone]) (post:=[z.lv,z.rv]++((rs2.drop (a+1)).map rC).flatten) (new:=[.bool true]) rfl (by rw [add_zero',List.length_append,qk ai,List.length_append,ax];rfl) rfl rfl eO (by have h9:=(hT2.ext hE).es;rw [jW hz]at h9;simpa [rC,bu]using h9) rfl (dd rfl) (fun w16 hc16 hB16_=>?_);have hz16:=hc16.size;refine WL.nil (hK21 _ _ ?_);clear hK21;refine CW.exit ?_;have hO12:Own w16 tO 38 (.slice (some ⟨gE,0,none⟩) rs2.length ec) (((rs2.set a z.die).map rC).flatten):=by
     rw [qg _ hz];simpa [rC,bu,Rn.die]using hB16_
    exact⟨(_,av2,_),Fr.ok,hA.del hE hc16 hgE hz hO12 ho ha (by assumption)⟩
   refine CW.skip ?_;refine hK18 _ _ ?_;clear hK18;refine CW.sr fun K22 hK22=>WL.m rfl<|WL.v (Y.nilCheck rfl)<|WL.v (Y.fieldAddr aI rfl)<|WL.v (Y.ah underlying111 rfl ((hT2.ext hE).bY.mem.aP) rfl)<|WL.v (Y.aq underlying111 rfl)<|WL.a rfl<|WL.nil (hK22 _ _ ?_);clear hK22;refine CW.bK (X:=Value) (fun v=>[(0,.pointer (some ⟨g,0,none⟩)),(9,.pointer (some ⟨g9,0,none⟩)),(10,.int .i64 (a:Int)),(11,.int .i64 (rs2.length:Int)),(2,.slice (some aa) m c),(4,.pointer (some ⟨g4,0,none⟩)),(8,.int .i64 (k:Int))]) (fun v w0=>ey w0 g (ad++[id]) (rs2++[(Rn.one ⟨false,id,(k:Int)+1⟩ o.byte)]) av2 v∧aE (fun q=>q=g∨(Value.slice (some ⟨gE,0,none⟩) rs2.length ec).ownBlock=some q) w11 w0∧∀q,v.ownBlock=some q→(Value.slice (some ⟨gE,0,none⟩) rs2.length ec).ownBlock=some q∨w11.heap.size≤q) ?_ ?_
   ·refine CW.held (fun wq=>aE (fun q=>q=g∨(Value.slice (some ⟨gE,0,none⟩) rs2.length ec).ownBlock=some q) w15 wq) aG 20 rfl fun w17 hx17=>?_;have hS:aE (fun q=>q=g∨(Value.slice (some ⟨gE,0,none⟩) rs2.length ec).ownBlock=some q) w15 w17:=Ext.aA hx17;have hz17:=hx17.size;have hEb:Ext w11 w17:=hE.ae hx17;have h4n:¬(g4=g∨(Value.slice (some ⟨gE,0,none⟩) rs2.length ec).ownBlock=some g4):=fun h=>hA.idn (by
     rcases h with h|h
     ·exact .inl h
     ·exact .inr (.inr (.inl h)))
    have hmq:∀wq,aE (fun q=>q=g∨(Value.slice (some ⟨gE,0,none⟩) rs2.length ec).ownBlock=some q) w15 wq→Mem wq (aa.add (k*37)) (eM o):=fun wq hq=>by
     have hCw:aE (Rp g rs av ev_) w wq:=hA.aA.lf ((Ext.aA hE).trans hq (fun q _ h=>h)) (fun q hq=>hA.fresh q (by
      rcases hq with h|h
      ·exact .inl h
      ·exact .inr (.inr (.inl h))))
     obtain⟨aa2,haa,hm2⟩:=(hlo2.G0 hCw (fun h0 q hq=>(hb h0 q hq).2)).get ho;obtain rfl:=Option.some.inj haa;exact hm2
    refine RH.tk 0 hS rfl (fun wq hq=>Y.move rfl)<|RH.tk 1 hS rfl (fun wq hq=>Y.move rfl)<|RH.tk 2 hS rfl (fun wq hq=>Y.nilCheck rfl)<|RH.tk 3 hS rfl (fun wq hq=>Y.fieldAddr aI rfl)<|RH.tk 5 hS rfl (fun wq hq=>Y.load underlying42 rfl (hB4.aA hq h4n).mem (aj _) rfl)<|RH.tk 6 hS rfl (fun wq hq=>Y.move rfl)<|RH.tk 7 hS rfl (fun wq hq=>Y.add rfl rfl bB)<|RH.tk 8 hS rfl (fun wq hq=>Y.build rfl (mf _ _ _))<|RH.tk 9 hS rfl (fun wq hq=>Y.move rfl)<|RH.tk 10 hS rfl (fun wq hq=>Y.move rfl)<|RH.tk 11 hS rfl (fun wq hq=>Y.af underlying27 rfl rfl bQ ai)<|RH.tk 12 hS rfl (fun wq hq=>Y.fieldAddr jU rfl)<|RH.tk 13 hS rfl (fun wq hq=>Y.ah underlying5 rfl ((hmq wq hq).Ip) rfl) ?_;refine RH.tk 14 hS rfl (fun wq hq=>Y.build rfl (yY _ _ _))<|RH.two 4 15 aG ?_ ?_
    ·refine RS.val rfl (Y.ah underlying111 rfl ((hT2.ext hEb).bY.mem.aP) rfl) aw ⟨hS,?_⟩;refine RH.one 15 aG ?_;refine RS.st rfl (St.buildSlice rfl (sA (Rn.one ⟨false,id,(k:Int)+1⟩ o.byte))) aw fun v82 w18 hR18=>?_;obtain⟨g82,rfl,hg82,hB82,hx14⟩:=hR18;have hz14:=hx14.size;have hE14:Ext w11 w18:=hEb.ae hx14;have hS:aE (fun q=>q=g∨(Value.slice (some ⟨gE,0,none⟩) rs2.length ec).ownBlock=some q) w15 w18:=hS.ae hx14;refine⟨hS,?_⟩;refine RH.one 16 aG ?_;refine RS.st rfl (St.append (m:=1) (news:=rC (Rn.one ⟨false,id,(k:Int)+1⟩ o.byte)) JD JD vu rfl rfl (hT2.ext hE14).es (Fw.Src.one hB82 (gu _)) (ED _ _) (by rw [aO gu];omega)) aw fun v83 w19 hR19=>?_;obtain⟨hO15,hc15,hf15⟩:=hR19;have hz15:=hc15.size;have hS:aE (fun q=>q=g∨(Value.slice (some ⟨gE,0,none⟩) rs2.length ec).ownBlock=some q) w15 w19:=hS.trans hc15 (fun q _ h=>.inr h);obtain⟨EA3,em3,ec3,rfl⟩:=hO15.lens;obtain⟨gE3,rfl⟩:=hO15.bY (by simp [rC,bu]);have hO15':Own w19 tO 38 (.slice (some ⟨gE3,0,none⟩) em3 ec3) (((rs2++[(Rn.one ⟨false,id,(k:Int)+1⟩ o.byte)]).map rC).flatten):=by simpa using hO15
     refine⟨hS,?_⟩;refine RH.tk 17 hS rfl (fun wq hq=>Y.nilCheck rfl)<|RH.tk 18 hS rfl (fun wq hq=>Y.fieldAddr aI rfl)<|RH.one 19 aG ?_;refine RS.store rfl (g:=g) (pre:=[av2]) (old:=[.slice (some ⟨gE,0,none⟩) rs2.length ec]) (post:=[]) (new:=[.slice (some ⟨gE3,0,none⟩) em3 ec3]) rfl rfl rfl rfl aG ((hT2.ext hE14).bY.aA hc15 (fun h=>hT2.ne.2.1 g h rfl)) rfl (dd rfl) (fun w20 hc20 hB20_=>?_);have hS:aE (fun q=>q=g∨(Value.slice (some ⟨gE,0,none⟩) rs2.length ec).ownBlock=some q) w15 w20:=hS.trans hc20 (fun q _ h=>.inl h);have hzE:=hE14.size;have hgg:=hT2.bY.lt;have hEo:∀q,(Value.slice (some ⟨gE3,0,none⟩) em3 ec3).ownBlock=some q→(Value.slice (some ⟨gE,0,none⟩) rs2.length ec).ownBlock=some q∨w11.heap.size≤q:=fun q hq=>by
      rcases hf15 with h|h
      ·rw [h]at hq;exact .inl hq
      ·exact .inr (by have:=h q hq;omega)
     have hg3:g≠gE3:=fun e=>by
      rcases hEo gE3 rfl with h|h
      ·exact hT2.ne.2.1 gE3 h e.symm
      ·omega
     have hC16:aE (fun q=>q=g∨(Value.slice (some ⟨gE,0,none⟩) rs2.length ec).ownBlock=some q) w11 w20:=((Ext.aA hE14).trans hc15 (fun q _ h=>.inr h)).trans hc20 (fun q _ h=>.inl h);have hO16:=hO15'.aA hc20 (fun q hq e=>by
      injection hq with hq
      have hq:gE3=q:=hq;omega)
     have hT3:=hT2.push (y:=(Rn.one ⟨false,id,(k:Int)+1⟩ o.byte)) hC16 (fun q h=>h) hB20_ hO16 (fun s=>by cases s<;>exact Own.nil);refine⟨hS,?_⟩;refine RH.done aG ?_;exact⟨.slice (some ⟨gE3,0,none⟩) em3 ec3,Fr.ok,hT3,hC16,hEo⟩
    ·refine RS.st rfl (St.buildSlice rfl (sA (Rn.one ⟨false,id,(k:Int)+1⟩ o.byte))) aw fun v82 w21 hR21=>?_;obtain⟨g82,rfl,hg82,hB82,hx14⟩:=hR21;have hz14:=hx14.size;have hE14:Ext w11 w21:=hEb.ae hx14;have hS:aE (fun q=>q=g∨(Value.slice (some ⟨gE,0,none⟩) rs2.length ec).ownBlock=some q) w15 w21:=hS.ae hx14;refine⟨hS,?_⟩;refine RH.one 4 aG ?_;refine RS.val rfl (Y.ah underlying111 rfl ((hT2.ext hE14).bY.mem.aP) rfl) aw ⟨hS,?_⟩;refine RH.one 16 aG ?_;refine RS.st rfl (St.append (m:=1) (news:=rC (Rn.one ⟨false,id,(k:Int)+1⟩ o.byte)) JD JD vu rfl rfl (hT2.ext hE14).es (Fw.Src.one hB82 (gu _)) (ED _ _) (by rw [aO gu];omega)) aw fun v83 w22 hR22=>?_;obtain⟨hO15,hc15,hf15⟩:=hR22;have hz15:=hc15.size;have hS:aE (fun q=>q=g∨(Value.slice (some ⟨gE,0,none⟩) rs2.length ec).ownBlock=some q) w15 w22:=hS.trans hc15 (fun q _ h=>.inr h);obtain⟨EA3,em3,ec3,rfl⟩:=hO15.lens;obtain⟨gE3,rfl⟩:=hO15.bY (by simp [rC,bu]);have hO15':Own w22 tO 38 (.slice (some ⟨gE3,0,none⟩) em3 ec3) (((rs2++[(Rn.one ⟨false,id,(k:Int)+1⟩ o.byte)]).map rC).flatten):=by simpa using hO15
     refine⟨hS,?_⟩;refine RH.tk 17 hS rfl (fun wq hq=>Y.nilCheck rfl)<|RH.tk 18 hS rfl (fun wq hq=>Y.fieldAddr aI rfl)<|RH.one 19 aG ?_;refine RS.store rfl (g:=g) (pre:=[av2]) (old:=[.slice (some ⟨gE,0,none⟩) rs2.length ec]) (post:=[]) (new:=[.slice (some ⟨gE3,0,none⟩) em3 ec3]) rfl rfl rfl rfl aG ((hT2.ext hE14).bY.aA hc15 (fun h=>hT2.ne.2.1 g h rfl)) rfl (dd rfl) (fun w23 hc23 hB23_=>?_);have hS:aE (fun q=>q=g∨(Value.slice (some ⟨gE,0,none⟩) rs2.length ec).ownBlock=some q) w15 w23:=hS.trans hc23 (fun q _ h=>.inl h);have hzE:=hE14.size;have hgg:=hT2.bY.lt;have hEo:∀q,(Value.slice (some ⟨gE3,0,none⟩) em3 ec3).ownBlock=some q→(Value.slice (some ⟨gE,0,none⟩) rs2.length ec).ownBlock=some q∨w11.heap.size≤q:=fun q hq=>by
      rcases hf15 with h|h
      ·rw [h]at hq;exact .inl hq
      ·exact .inr (by have:=h q hq;omega)
     have hg3:g≠gE3:=fun e=>by
      rcases hEo gE3 rfl with h|h
      ·exact hT2.ne.2.1 gE3 h e.symm
      ·omega
     have hC16:aE (fun q=>q=g∨(Value.slice (some ⟨gE,0,none⟩) rs2.length ec).ownBlock=some q) w11 w23:=((Ext.aA hE14).trans hc15 (fun q _ h=>.inr h)).trans hc23 (fun q _ h=>.inl h);have hO16:=hO15'.aA hc23 (fun q hq e=>by
      injection hq with hq
      have hq:gE3=q:=hq;omega)
     have hT3:=hT2.push (y:=(Rn.one ⟨false,id,(k:Int)+1⟩ o.byte)) hC16 (fun q h=>h) hB23_ hO16 (fun s=>by cases s<;>exact Own.nil);refine⟨hS,?_⟩;refine RH.done aG ?_;exact⟨.slice (some ⟨gE3,0,none⟩) em3 ec3,Fr.ok,hT3,hC16,hEo⟩
   rintro u w24 hj24;obtain⟨hT3,hC16,hEo⟩:=hj24;have hz3:(rs2++[(Rn.one ⟨false,id,(k:Int)+1⟩ o.byte)])[a]? =some z:=by rw [List.getElem?_append_left hal];exact hz
   have hzm3:=List.mem_of_getElem? hz3;obtain⟨EA3,em3,ec3,rfl⟩:=hT3.es.lens;obtain⟨gE3,rfl⟩:=hT3.es.bY (by rw [jW hz3];simp [rC,bu]);have hzE:=hC16.size;have hgg:=hT2.bY.lt;have hg3:g≠gE3:=fun e=>hT3.ne.2.1 gE3 rfl e.symm;have hk1:o.kind=1:=by
    rcases hRO.kind with h|h
    ·exact h.1
    ·exact absurd h.1 (by assumption)
   have hstep:=nk ho;rw [if_pos hk1]at hstep;have hn4:(rs2++[(Rn.one ⟨false,id,(k:Int)+1⟩ o.byte)]).length≤400001:=by
    have h1:fF (ops.take (k+1))≤fF ops:=List.Sublist.countP_le (List.take_sublist (k+1) ops);rw [List.length_append,List.length_singleton];omega
   have hsl:∀s,(side z.el s).length≤400001:=fun s=>by
    have h1:=B8 hG2' hze s;omega
   obtain⟨hem3,hec3⟩:rs2.length+1=em3∧em3≤ec3:=by
    obtain⟨A',m',c',e,h1,h2,_⟩:=hT3.sl;injection e with e1 e2 e3
    rw [List.length_append,List.length_singleton]at h1;exact bB
   obtain⟨a3,ha3,hmz⟩:=hT3.sl.get hz3;obtain rfl:=Option.some.inj ha3;have hCw:aE (Rp g rs av ev_) w w24:=hA.aA.lf hC16 (fun q hq=>hA.fresh q (by
    rcases hq with h|h
    ·exact .inl h
    ·exact .inr (.inr (.inl h))))
   obtain⟨aa2,haa,hma16⟩:=(hlo2.G0 hCw (fun h0 q hq=>(hb h0 q hq).2)).get ho;obtain rfl:=Option.some.inj haa;refine CW.sr fun K23 hK23=>WL.m rfl<|WL.m rfl<|WL.v (Y.af underlying27 rfl rfl bQ ai)<|WL.v (Y.fieldAddr fB rfl)<|WL.v (Y.ah underlying4 rfl hma16.FQ rfl)<|WL.nil (hK23 _ _ ?_);clear hK23;refine bp ?_ ?_<;>intro ht24
   ·refine CW.held (fun wq=>aE (fun k=>k=gE3) w24 wq) aG 19 rfl fun w25 hx25=>?_;have hS:aE (fun k=>k=gE3) w24 w25:=Ext.aA hx25;refine RH.tk 0 hS rfl (fun wq hq=>Y.move rfl)<|RH.tk 1 hS rfl (fun wq hq=>Y.nilCheck rfl)<|RH.tk 2 hS rfl (fun wq hq=>Y.fieldAddr aI rfl)<|RH.tk 3 hS rfl (fun wq hq=>Y.ah underlying111 rfl ((hT3.bY.aA hq hg3).mem.aP) rfl)<|RH.tk 4 hS rfl (fun wq hq=>Y.move rfl)<|RH.tk 5 hS rfl (fun wq hq=>Y.move rfl)<|RH.tk 6 hS rfl (fun wq hq=>Y.move rfl)<|RH.tk 7 hS rfl (fun wq hq=>Y.nilCheck rfl)<|RH.tk 8 hS rfl (fun wq hq=>Y.fieldAddr aI rfl)<|RH.tk 9 hS rfl (fun wq hq=>Y.ah underlying111 rfl ((hT3.bY.aA hq hg3).mem.aP) rfl)<|RH.tk 10 hS rfl (fun wq hq=>Y.move rfl)<|RH.tk 11 hS rfl (fun wq hq=>Y.af underlying111 rfl rfl aV ai)<|RH.tk 12 hS rfl (fun wq hq=>Y.fieldAddr ff rfl) ?_;refine RH.tk 14 hS rfl (fun wq hq=>Y.move rfl)<|RH.one 13 aG ?_;refine RS.val rfl (Y.ah underlying23 rfl ((hmz.ext hx25).jz) rfl) aw ⟨hS,?_⟩;refine RH.one 15 aG ?_;refine RS.call rfl (fun _ _ h=>by cases h) func68 rfl rfl rfl (xo g (ad++[id]) (rs2++[(Rn.one ⟨false,id,(k:Int)+1⟩ o.byte)]) av2 _ _ (side z.el true) rs2.length _ (hT3.ext hx25) hn4 ((hT3.kids z hzm3 true).ext hx25) (hsl true) aL (fun q hq=>by have:=hside true q hq;rw [List.length_append,List.length_singleton];omega)) aw fun v106 w26 hR26=>?_;obtain⟨hO26,hf26,hx26⟩:=hR26;have hz25:=hx25.size;have hz26:=hx26.size;obtain⟨KA,km,kc,rfl⟩:=hO26.lens;have hxx:Ext w24 w26:=hx25.ae hx26;have hS:aE (fun k=>k=gE3) w24 w26:=Ext.aA hxx;refine⟨hS,?_⟩;refine RH.tk 16 hS rfl (fun wq hq=>Y.af underlying111 rfl rfl aV ai)<|RH.tk 17 hS rfl (fun wq hq=>Y.fieldAddr ff rfl)<|RH.one 18 aG ?_;refine RS.kZ rfl (g:=gE3) (pre:=(((rs2++[(Rn.one ⟨false,id,(k:Int)+1⟩ o.byte)]).take a).map rC).flatten++(aX z.el.name++[bc z.el.byte,.bool z.el.gone])) (old:=[z.lv]) (post:=[z.rv]++(((rs2++[(Rn.one ⟨false,id,(k:Int)+1⟩ o.byte)]).drop (a+1)).map rC).flatten) (new:=[.slice KA km kc]) rfl (by rw [add_zero',List.length_append,qk (by rw [List.length_append,List.length_singleton];omega),List.length_append,ax];rfl) rfl rfl aG (by have h9:=(hT3.ext hxx).es;rw [jW hz3]at h9;simpa [rC,bu]using h9) rfl (dd rfl) (fun w27 hc27 hB27_=>?_);have hS:aE (fun k=>k=gE3) w24 w27:=hS.trans hc27 (fun q _ h=>h);refine⟨hS,?_⟩;refine RH.done aG ?_;have hlf:o.left=true:=by simp_all
    have hO27:Own w27 tO 38 (.slice (some ⟨gE3,0,none⟩) em3 ec3) ((((rs2++[(Rn.one ⟨false,id,(k:Int)+1⟩ o.byte)]).set a (z.more (ay rs2) o.left ⟨false,id,(k:Int)+1⟩ (.slice KA km kc))).map rC).flatten):=by
     rw [qg _ hz3,AO,hlf];simpa [rC,bu]using hB27_
    have hput:=AR (rs2:=rs2) (r:=⟨false,id,(k:Int)+1⟩) (b:=o.byte) (hside true);rw [hput]at hO26;have hkE:∀q,(Value.slice KA km kc).ownBlock=some q→q≠gE3:=fun q hq e=>by
     have h1:=hf26 q hq;have h2:=(hT3.ext hx25).lt (.inr (.inr (.inl (show(Value.slice (some ⟨gE3,0,none⟩) em3 ec3).ownBlock=some gE3 from rfl))));omega
    have hTT:=(hT3.ext hxx).set (a:=a) (y:=z.more (ay rs2) o.left ⟨false,id,(k:Int)+1⟩ (.slice KA km kc)) hc27 (fun q e=>by rw [e];rfl) hO27 (fun s=>by
     have h1:=((hT3.kids z hzm3 s).ext hxx).aA hc27 (fun q hq e=>(hT3.ne.2.2 z hzm3 s q hq).2.2 (by rw [e];rfl));have h2:=hO26.aA hc27 (fun q hq e=>hkE q hq e);rw [hlf];show Own _ _ _ _ (fe (side (z.el.more (ay rs2) true ⟨false,id,(k:Int)+1⟩) s));rw [uO];cases s<;>first|exact h1|exact h2)
    exact⟨(_,av2,_),Fr.ok,hA.ins (hC16.trans hS (fun q hq e=>by
      rcases hEo gE3 rfl with h|h
      ·rw [e];exact .inr h
      ·omega)) hz hTT hEo (fun q hq=>by have:=hf26 q hq;omega) ho ha hk1⟩
   refine CW.held (fun wq=>aE (fun k=>k=gE3) w24 wq) aG 19 rfl fun w28 hx28=>?_;have hS:aE (fun k=>k=gE3) w24 w28:=Ext.aA hx28;refine RH.tk 0 hS rfl (fun wq hq=>Y.move rfl)<|RH.tk 1 hS rfl (fun wq hq=>Y.nilCheck rfl)<|RH.tk 2 hS rfl (fun wq hq=>Y.fieldAddr aI rfl)<|RH.tk 3 hS rfl (fun wq hq=>Y.ah underlying111 rfl ((hT3.bY.aA hq hg3).mem.aP) rfl)<|RH.tk 4 hS rfl (fun wq hq=>Y.move rfl)<|RH.tk 5 hS rfl (fun wq hq=>Y.move rfl)<|RH.tk 6 hS rfl (fun wq hq=>Y.move rfl)<|RH.tk 7 hS rfl (fun wq hq=>Y.nilCheck rfl)<|RH.tk 8 hS rfl (fun wq hq=>Y.fieldAddr aI rfl)<|RH.tk 9 hS rfl (fun wq hq=>Y.ah underlying111 rfl ((hT3.bY.aA hq hg3).mem.aP) rfl)<|RH.tk 10 hS rfl (fun wq hq=>Y.move rfl)<|RH.tk 11 hS rfl (fun wq hq=>Y.af underlying111 rfl rfl aV ai)<|RH.tk 12 hS rfl (fun wq hq=>Y.fieldAddr dR rfl) ?_;refine RH.tk 14 hS rfl (fun wq hq=>Y.move rfl)<|RH.one 13 aG ?_;refine RS.val rfl (Y.ah underlying23 rfl ((hmz.ext hx28).gC) rfl) aw ⟨hS,?_⟩;refine RH.one 15 aG ?_;refine RS.call rfl (fun _ _ h=>by cases h) func68 rfl rfl rfl (xo g (ad++[id]) (rs2++[(Rn.one ⟨false,id,(k:Int)+1⟩ o.byte)]) av2 _ _ (side z.el false) rs2.length _ (hT3.ext hx28) hn4 ((hT3.kids z hzm3 false).ext hx28) (hsl false) aL (fun q hq=>by have:=hside false q hq;rw [List.length_append,List.length_singleton];omega)) aw fun v124 w29 hR29=>?_;obtain⟨hO29,hf29,hx29⟩:=hR29;have hz28:=hx28.size;have hz29:=hx29.size;obtain⟨KA,km,kc,rfl⟩:=hO29.lens;have hxx:Ext w24 w29:=hx28.ae hx29;have hS:aE (fun k=>k=gE3) w24 w29:=Ext.aA hxx;refine⟨hS,?_⟩;refine RH.tk 16 hS rfl (fun wq hq=>Y.af underlying111 rfl rfl aV ai)<|RH.tk 17 hS rfl (fun wq hq=>Y.fieldAddr dR rfl)<|RH.one 18 aG ?_;refine RS.kZ rfl (g:=gE3) (pre:=(((rs2++[(Rn.one ⟨false,id,(k:Int)+1⟩ o.byte)]).take a).map rC).flatten++(aX z.el.name++[bc z.el.byte,.bool z.el.gone,z.lv])) (old:=[z.rv]) (post:=(((rs2++[(Rn.one ⟨false,id,(k:Int)+1⟩ o.byte)]).drop (a+1)).map rC).flatten) (new:=[.slice KA km kc]) rfl (by rw [add_zero',List.length_append,qk (by rw [List.length_append,List.length_singleton];omega),List.length_append,ax];rfl) rfl rfl aG (by have h9:=(hT3.ext hxx).es;rw [jW hz3]at h9;simpa [rC,bu]using h9) rfl (dd rfl) (fun w30 hc30 hB30_=>?_);have hS:aE (fun k=>k=gE3) w24 w30:=hS.trans hc30 (fun q _ h=>h);refine⟨hS,?_⟩;refine RH.done aG ?_;have hlf:o.left=false:=by simp_all
   have hO30:Own w30 tO 38 (.slice (some ⟨gE3,0,none⟩) em3 ec3) ((((rs2++[(Rn.one ⟨false,id,(k:Int)+1⟩ o.byte)]).set a (z.more (ay rs2) o.left ⟨false,id,(k:Int)+1⟩ (.slice KA km kc))).map rC).flatten):=by
    rw [qg _ hz3,AO,hlf];simpa [rC,bu]using hB30_
   have hput:=AR (rs2:=rs2) (r:=⟨false,id,(k:Int)+1⟩) (b:=o.byte) (hside false);rw [hput]at hO29;have hkE:∀q,(Value.slice KA km kc).ownBlock=some q→q≠gE3:=fun q hq e=>by
    have h1:=hf29 q hq;have h2:=(hT3.ext hx28).lt (.inr (.inr (.inl (show(Value.slice (some ⟨gE3,0,none⟩) em3 ec3).ownBlock=some gE3 from rfl))));omega
   have hTT:=(hT3.ext hxx).set (a:=a) (y:=z.more (ay rs2) o.left ⟨false,id,(k:Int)+1⟩ (.slice KA km kc)) hc30 (fun q e=>by rw [e];rfl) hO30 (fun s=>by
    have h1:=((hT3.kids z hzm3 s).ext hxx).aA hc30 (fun q hq e=>(hT3.ne.2.2 z hzm3 s q hq).2.2 (by rw [e];rfl));have h2:=hO29.aA hc30 (fun q hq e=>hkE q hq e);rw [hlf];show Own _ _ _ _ (fe (side (z.el.more (ay rs2) false ⟨false,id,(k:Int)+1⟩) s));rw [uO];cases s<;>first|exact h1|exact h2)
   exact⟨(_,av2,_),Fr.ok,hA.ins (hC16.trans hS (fun q hq e=>by
     rcases hEo gE3 rfl with h|h
     ·rw [e];exact .inr h
     ·omega)) hz hTT hEo (fun q hq=>by have:=hf29 q hq;omega) ho ha hk1⟩
  rintro u w31 hj31;refine CW.region<|WL.m rfl<|WL.v (Y.add rfl rfl bB)<|WL.a rfl<|WL.nil ?_;exact⟨(k+1,u),(by show m-(k+1)<m-k;omega),Fr.ok,(by show k+1≤m;omega),hj31⟩
 refine CW.exit ?_;refine hK7 _ _ ?_;clear hK7;refine CW.sr fun K25 hK25=>WL.a rfl<|WL.nil (hK25 _ _ ?_);clear hK25;refine CW.ret ⟨_,rfl,?_⟩;have hkm2:k=ops.length:=by omega
 subst hkm2;have e1:iJ ⟨ad,ay rs⟩ id ops=⟨ad++[id],jm id ops (ay rs) ops.length⟩:=by rw [iJ,if_pos hw0]
 rw [e1];exact⟨by rw [hw0],rs2,av2,ev2,hT2,hels,hA.aA,hA.fresh⟩
end Go.Proofs.YtmehkigmnpjcjaaGreatDoor
namespace Go.Fu
open Go.Fw Go.Pl
def D1:aD:=⟨1::List.replicate 31 0,rfl⟩
def fT:List ct:=[⟨1,false,aF.zero,97⟩,⟨1,false,⟨true,aD.zero,1⟩,98⟩]
theorem Ar:di Tr.new D1 fT=0:=by decide
theorem GO:bZ (iJ Tr.new D1 fT).e=[97,98]:=by decide
end Go.Fu
namespace Go.Fw
open Go.Fu Go.Pl
structure Ke where
 id:aD
 ops:List ct
 A:Option Addr
 c:Nat
def Ke.zero:Ke:=⟨aD.zero,[],none,0⟩
theorem Sl.Ft{α:Type}{w:World}{enc:α→List Value}{k:Nat}{v:Value}{xs:List α}(h:Sl w enc k v xs)(he:∀x,enc x≠[])(hx:xs≠[]):∀b,v.ownBlock=some b→b<w.heap.size:=by
 obtain⟨A,m,c,rfl,_,_,_,hg⟩:=h;cases xs with
 |nil=>exact absurd rfl hx
 |cons y r=>
  obtain⟨a,rfl,hm⟩:=hg 0 y rfl;intro b hb;have h1:=hm.lt (he y);simp [Value.ownBlock]at hb;have h2:(a.add (0*k)).block=a.block:=by unfold Addr.add;split<;>rfl
  rw [h2]at h1;omega
theorem EL{P:Program}{t e:TypeId}{ie:TypeInfo}{z:Value}{a b:Value}{xs ys:List Value}(hu:P.underlying t=some (.slice e))(hi:P.info? e=some ie)(hz:ie.zero=some z)(h0:0<ie.size)(hsm:ie.size*2≤16777216)(ha:a.cells=xs.toArray)(hb:b.cells=ys.toArray)(hla:xs.length=ie.size)(hlb:ys.length=ie.size)(w:World):
  (Instr.buildSlice t 2 [(0,a),(1,b)].toArray).run P w= .ok (.slice (some ⟨w.heap.size,0,none⟩) 2 2) (w.alloc (.cells (xs++ys).toArray e)):=by
 refine run_buildSlice w t e 2 _ _ ie z hu hi hz ai ai ?_;have h:=Go.Great.fill_whole (s:=ie.size) h0 [a,b] ((Array.range (2*ie.size)).map (z.cells[· % z.cells.size]!)) (by intro u hu;simp at hu;rcases hu with rfl|rfl<;>simp [*]) aL;simpa [ha,hb]using h
end Go.Fw
namespace Go.Proofs.YtmehkigmnpjcjaaGreatDoor
open Go.RowKit Go.Fw Go.Fu Go.Pl Go.Proofs.Tryz
theorem HX(x y:ct)(w:World):(Instr.buildSlice 27 2 [(0,Bz x),(1,Bz y)].toArray).run prog w= .ok (.slice (some ⟨w.heap.size,0,none⟩) 2 2) (w.alloc (.cells (eM x++eM y).toArray 64)):=by
 obtain⟨i,z,hi,hz,hk,_⟩:=q5;exact EL underlying27 hi hz ai ai rfl rfl (by rw [aC,hk]) (by rw [aC,hk]) w
theorem Db(w:World):(Instr.build Ik [(0,Value.int .u8 1)].toArray).run prog w= .ok (.agg (aN D1).toArray) w:=run_build w _ _ _ aG
theorem Cb(w:World):(Instr.build 64 [(0,Value.int .i64 1),(3,Value.int .u8 97)].toArray).run prog w= .ok (.agg (eM ⟨1,false,aF.zero,97⟩).toArray) w:=run_build w _ _ _ aG
theorem yF(w:World):(Instr.build 62 [(0,Value.bool true),(2,Value.int .i64 1)].toArray).run prog w= .ok (.agg (aX ⟨true,aD.zero,1⟩).toArray) w:=run_build w _ _ _ aG
theorem CC(w:World):(Instr.build 64 [(0,Value.int .i64 1),(3,Value.int .u8 98),(2,.agg (aX ⟨true,aD.zero,1⟩).toArray)].toArray).run prog w= .ok (.agg (eM ⟨1,false,⟨true,aD.zero,1⟩,98⟩).toArray) w:=run_build w _ _ _ aG
theorem aK.own{w:World}{g k m:Nat}{t:TypeId}{cs:List Value}(h:aK w g t cs)(hl:cs.length=m*k)(hm:m≤maxLen):Own w t k (.slice (some ⟨g,0,none⟩) m m) cs:= .inr ⟨g,m,m,[],(0,0),rfl,(by have h9:w.heap[g]? =_:=h;simpa using h9),by simp [hl],by omega,hm,by simp [hl],fun o _=>by simp⟩
theorem Fp.Hc{g rb ra gn q:Nat}(h:Fp g rb ra (x5 gn) q):q=g∨q=rb∨q=ra∨q=gn:=by
 rcases h with h|h|h|⟨x,hx,h⟩
 ·exact .inl h
 ·exact .inr (.inl h)
 ·exact .inr (.inr (.inl h))
 ·simp [x5]at hx;subst hx;rcases h with h|⟨s,h⟩
  ·exact .inr (.inr (.inr h))
  ·cases s<;>simp [Nn.sv,Value.ownBlock]at h
theorem EB(x:ct):eM x≠[]:=fun h=>by have:=aC x;rw [h]at this;cases this
end Go.Proofs.YtmehkigmnpjcjaaGreatDoor
