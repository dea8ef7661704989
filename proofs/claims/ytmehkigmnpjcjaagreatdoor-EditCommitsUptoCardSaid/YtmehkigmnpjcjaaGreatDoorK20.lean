/- Parts of a proof: what its last text leans on. No condition. -/
import Derived.LaidEqlPtr
import Derived.Test.YtmehkigmnpjcjaaGreatDoorK19
set_option linter.unusedSimpArgs false
set_option linter.unusedVariables false
namespace Go.Proofs.YtmehkigmnpjcjaaGreatDoor
open Go.Fw Go.Pl Go.Fu Go.Proofs.Tryz
section
open Classical Go.Proofs.Tryz
noncomputable def pZ(l:List bx)(S:aD→Prop):Nat→Tr
 |0=>Tr.new
 |k+1=>match l[k]? with
  |some c=>if S (eH c)then iJ (pZ l S k) (eH c) c.ops else pZ l S k
  |none=>pZ l S k
theorem oP{l:List bx}{S:aD→Prop}{k:Nat}{c:bx}(hc:l[k]? =some c)(h:S (eH c)):pZ l S (k+1)=iJ (pZ l S k) (eH c) c.ops:=by rw [pZ,hc];simp only [if_pos h]
theorem vk{l:List bx}{S:aD→Prop}{k:Nat}{c:bx}(hc:l[k]? =some c)(h:¬S (eH c)):pZ l S (k+1)=pZ l S k:=by rw [pZ,hc];simp only [if_neg h]
end
theorem vZ{l:List bx}(hk:lQ l)(hl:l.length≤200){S:aD→Prop}(hS:qd l S):∀{k:Nat},k≤l.length→fI (kB S (l.take k)) (pZ l S k)
 |0,_=>by rw [List.take_zero];exact nY
 |k+1,h=>by
  obtain⟨c,hc⟩:∃c,l[k]? =some c:=⟨_,List.getElem?_eq_getElem ai⟩;have ih:=vZ hk hl hS (k:=k) ai;by_cases hs:S (eH c)
  ·rw [oP hc hs];exact Fx hk hl hS hc hs ih
  ·rw [vk hc hs,HS hc hs];exact ih
noncomputable def Hq(l:List bx)(ids:List aD):Tr:=pZ l (cO (bH l) ids) l.length
theorem vw{l:List bx}(hk:lQ l)(hl:l.length≤200)(ids:List aD):fI (kB (cO (bH l) ids) l) (Hq l ids):=by
 have:=vZ hk hl (iu l ids) (Nat.le_refl _);rwa [List.take_length]at this
open Classical in
noncomputable def lH(l:List bx)(ids:List aD):Int:=if(jJ l).2≠0 then(jJ l).2 else if∃d∈ids,d∉dK l then 5 else 0
noncomputable def C3(l:List bx)(ids:List aD):List UInt8:=if lH l ids=0 then bZ (Hq l ids).e else []
open Classical in
noncomputable def rl(l:List bx)(a b:List aD):Int:=if lH l (a++b)≠0 then lH l (a++b)else if 8<(Hl (bH l) (a++b)).length then 4 else 0
noncomputable def C0(l:List bx)(a b:List aD):List aD:=if rl l a b=0 then Hl (bH l) (a++b)else []
theorem kW{l:List bx}{ids:List aD}:lH l ids=0↔l.length≤200∧lQ l∧∀d∈ids,d∈dK l:=by
 unfold lH;constructor
 ·intro h;split at h
  ·rename_i h1;exact absurd h h1
  split at h
  ·omega
  rename_i h1 h2;obtain⟨h3,h4⟩:=lP.1 (Decidable.not_not.1 h1);exact⟨h3,h4,fun d hd=>Classical.byContradiction fun hn=>h2 ⟨d,hd,hn⟩⟩
 ·rintro⟨h1,h2,h3⟩;rw [if_neg (by rw [lP.2 ⟨h1,h2⟩];decide),if_neg (by rintro⟨d,hd,hn⟩;exact hn (h3 d hd))]
theorem HW{l:List bx}{a b:List aD}:rl l a b=0↔lH l (a++b)=0∧(Hl (bH l) (a++b)).length≤8:=by
 unfold rl;constructor
 ·intro h;split at h
  ·rename_i h1;exact absurd h h1
  split at h
  ·omega
  rename_i h1 h2;exact⟨Decidable.not_not.1 h1,by omega⟩
 ·rintro⟨h1,h2⟩;rw [if_neg ai,if_neg ai]
theorem wh{l:List bx}{a b:List aD}(h:lH l (a++b)=0):rl l a b=if 8<(Hl (bH l) (a++b)).length then 4 else 0:=by
 unfold rl;rw [if_neg ai]
theorem DH{l:List bx}{ids:List aD}(h:lH l ids=0):∀d∈ids,d∈bz (bH l):=fun d hd=>by rw [cR];exact(kW.1 h).2.2 d hd
theorem Fi{l:List bx}{ids:List aD}(h:lH l ids=0):(bL (bH l)).2=0:=(kW.1 h).2.1.nodes (kW.1 h).1
theorem stays{l:List bx}{m:bx}(h:(jJ (l++[m])).2=0)(ids:List aD):(jJ l).2=0∧((lH l ids=lH (l++[m]) ids∧C3 l ids=C3 (l++[m]) ids)∨lH l ids=5):=by
 obtain⟨h1,h2⟩:=lP.1 h;rw [List.length_append,List.length_singleton]at h1;have hl:lQ l:=by
  have:=h2.take l.length;rwa [List.take_append_of_le_length (Nat.le_refl _),List.take_length]at this
 have hr:(jJ l).2=0:=lP.2 ⟨by omega,hl⟩;refine⟨hr,?_⟩;by_cases hin:∀d∈ids,d∈dK l
 ·left;have t1:lH l ids=0:=kW.2 ⟨by omega,hl,hin⟩;have t2:lH (l++[m]) ids=0:=kW.2 ⟨by rw [List.length_append,List.length_singleton];omega,h2,fun d hd=>by rw [dK,List.map_append];exact List.mem_append_left _ (hin d hd)⟩;refine⟨by rw [t1,t2],?_⟩;have g:zg (bH l) (bH (l++[m])):=by
   have h3:=Fi t2;have e:bH (l++[m])=bH l++[G2 m]:=List.map_append;rw [e]at h3⊢;exact CP h3
  have hu:cO (bH (l++[m])) ids=cO (bH l) ids:=by
   funext d;exact propext (g.under (DH t1))
  rw [C3,C3,if_pos t1,if_pos t2];have e:kB (cO (bH (l++[m])) ids) (l++[m])=kB (cO (bH l) ids) l:=by
   rw [hu,kB,kB,List.filter_append,List.map_append];have hno:¬cO (bH l) ids (eH m):=fun hu=>by
    have h3:=m0 (Fi t1) (DH t1) hu;rw [cR]at h3;have h4:=(h2 l.length m aL).new;rw [List.take_append_of_le_length (Nat.le_refl _),List.take_length]at h4;exact h4 h3
   simp [hno]
  exact(zE (vw hl ai ids) (vw h2 (by rw [List.length_append,List.length_singleton];omega) ids) fun c=>by rw [e]).2.1
 ·right;unfold lH;rw [hr,if_neg aw,if_pos];exact Classical.byContradiction fun hn=>hin fun d hd=>Classical.byContradiction fun hd2=>hn ⟨d,hd,hd2⟩
end Go.Proofs.YtmehkigmnpjcjaaGreatDoor
namespace Go.Fw
open Go.Fu
def jA(g0 rb ra n:Nat):List Value:=[.pointer (some ⟨g0,0,none⟩),.map (some rb),.map (some ra),.int .i64 (n:Int)]
abbrev pC(g:Nat):List Value:=[.pointer (some ⟨g,0,none⟩)]
abbrev b9(l:List Nat):List Value:=(l.map pC).flatten
theorem jX(g:Nat):(pC g).length=1:=rfl
theorem a8(l:List Nat):(b9 l).length=l.length:=by rw [aO jX,Nat.mul_one]
section
variable {w:World} {a:Addr}
section
variable {g0 rb ra n:Nat} (h:Mem w a (jA g0 rb ra n))
include h
theorem Mem.iV:w.cell? (a.add 0)=some (.pointer (some ⟨g0,0,none⟩)):=h.cell 0 rfl
theorem Mem.jZ:w.cell? (a.add 1)=some (.map (some rb)):=h.cell 1 rfl
theorem Mem.lN:w.cell? (a.add 2)=some (.map (some ra)):=h.cell 2 rfl
theorem Mem.lV:w.cell? (a.add 3)=some (.int .i64 (n:Int)):=h.cell 3 rfl
end
section
variable {x:El} {lv rv:Value} (h:Mem w a (bu x lv rv))
include h
theorem Mem.dJ:Mem w (a.add 0) (aX x.name):=h.sub 0 fun j v hj=>by
 have hlt:j<(aX x.name).length:=(List.getElem?_eq_some_iff.1 hj).1;rw [Nat.zero_add,bu,List.getElem?_append_left hlt];exact hj
theorem Mem.ow:w.cell? (a.add 34)=some (.int .u8 (x.byte.toNat:Int)):=h.cell 34 (by rw [bu,List.getElem?_append_right (by rw [ax];omega),ax];rfl)
theorem Mem.nV:w.cell? (a.add 35)=some (.bool x.gone):=h.cell 35 (by rw [bu,List.getElem?_append_right (by rw [ax];omega),ax];rfl)
theorem Mem.fN:w.cell? (a.add 36)=some lv:=h.cell 36 (by rw [bu,List.getElem?_append_right (by rw [ax];omega),ax];rfl)
theorem Mem.fP:w.cell? (a.add 37)=some rv:=h.cell 37 (by rw [bu,List.getElem?_append_right (by rw [ax];omega),ax];rfl)
end
end
structure Nn where
 el:El
 g:Nat
 lv:Value
 rv:Value
def Nn.sv(x:Nn)(s:Bool):Value:=cond s x.lv x.rv
abbrev aR(ns:List Nn):List El:=ns.map Nn.el
def fh(ns:List Nn)(c:Nat):Nat:=((ns[c]?).map Nn.g).getD 0
theorem fH{ns:List Nn}{c:Nat}{x:Nn}(h:ns[c]? =some x):fh ns c=x.g:=by rw [fh,h];rfl
structure BE where
 k:aF
 g:Nat
 born:Nat
def BE.me(e:BE):MapEntry:={key:=dE e.k,val:= .pointer (some ⟨e.g,0,none⟩),born:=e.born}
structure AE where
 k:aD
 n:Int
 born:Nat
def AE.me(e:AE):MapEntry:={key:=cU e.k,val:= .int .i64 e.n,born:=e.born}
abbrev dr(ns:List Nn):Nat:=(aR ns).countP fun x=> !x.gone
def Ez(ns:List Nn):Option Nat→Option Addr
 |some i=>some ⟨fh ns i,0,none⟩
 |none=>none
abbrev G4(ns:List Nn)(o:Option Nat):Value:= .pointer (Ez ns o)
def Ij(ns:List Nn)(r:aF):Option Addr:=if r=aF.zero then none else Ez ns (kX (aR ns) r)
theorem DN(ns:List Nn)(r:aF):(Ij ns r).isNone=true↔r=aF.zero∨kX (aR ns) r=none:=by
 unfold Ij;by_cases h:r=aF.zero
 ·simp [h]
 ·rw [if_neg h];cases kX (aR ns) r<;>simp [Ez,h]
end Go.Fw
namespace Go.Proofs.YtmehkigmnpjcjaaGreatDoor
open Go.RowKit Go.Fw Go.Fu Go.Proofs.Tryz
abbrev TF:TypeId:=122
abbrev TN:TypeId:=119
abbrev TP:TypeId:=116
theorem Iw:TN≠TP:=by decide
theorem Ja:TF≠TN:=by decide
theorem Jk:TF≠TP:=by decide
structure cH(w:World)(g rb ra:Nat)(ad:List aD)(ns:List Nn):Prop where
 bY:aK w g TF (jA (fh ns 0) rb ra (dr ns))
 node:∀(i:Nat) (x:Nn),ns[i]? =some x→aK w x.g TN (bu x.el x.lv x.rv)
 kids:∀(i:Nat) (x:Nn) (s:Bool),ns[i]? =some x→Own w TP 1 (x.sv s) (b9 ((side x.el s).map (fh ns)))
 inj:∀(i j:Nat) (x y:Nn),ns[i]? =some x→ns[j]? =some y→x.g=y.g→i=j
 sep:∀(i j:Nat) (x y:Nn) (s t:Bool) (k:Nat),ns[i]? =some x→ns[j]? =some y→(x.sv s).ownBlock=some k→(y.sv t).ownBlock=some k→i=j∧s=t
 by_:∃cl l,b7 w rb BE.me l cl∧(∀e∈l,e.born<cl)∧(l.map BE.born).Nodup∧l.length+1=ns.length∧(∀e∈l,∃i x,0<i∧ns[i]? =some x∧x.el.name=e.k∧x.g=e.g)∧∀(i:Nat) (x:Nn),0<i→ns[i]? =some x→∃e∈l,e.k=x.el.name
 added:∃cl l,b7 w ra AE.me l cl∧(∀e∈l,e.born<cl)∧(l.map AE.born).Nodup∧(l.map AE.k).Nodup∧∀d,d∈l.map AE.k↔d∈ad
 ne:rb≠ra
def Fp(g rb ra:Nat)(ns:List Nn)(k:Nat):Prop:=k=g∨k=rb∨k=ra∨∃x∈ns,k=x.g∨∃s,(x.sv s).ownBlock=some k
section
variable {w w':World} {g rb ra:Nat} {ad:List aD} {ns:List Nn} {S:Nat→Prop}
theorem cH.lt(h:cH w g rb ra ad ns){k:Nat}(hk:Fp g rb ra ns k):k<w.heap.size:=by
 rcases hk with rfl|rfl|rfl|⟨x,hx,hk⟩
 ·exact h.bY.lt
 ·obtain⟨cl,l,hM,_⟩:=h.by_;exact hM.lt
 ·obtain⟨cl,l,hM,_⟩:=h.added;exact hM.lt
 ·obtain⟨i,hx⟩:=List.mem_iff_getElem?.1 hx;rcases hk with rfl|⟨s,hk⟩
  ·exact(h.node i x hx).lt
  ·exact(h.kids i x s hx).lt k hk
theorem cH.aA(h:cH w g rb ra ad ns)(hc:aE S w w')(hs:∀k,Fp g rb ra ns k→¬S k):cH w' g rb ra ad ns where
 bY:=h.bY.aA hc (hs g (.inl rfl))
 node i x hx:=(h.node i x hx).aA hc (hs _ (.inr (.inr (.inr ⟨x,List.mem_of_getElem? hx,.inl rfl⟩))))
 kids i x s hx:=(h.kids i x s hx).aA hc fun k hk=>hs _ (.inr (.inr (.inr ⟨x,List.mem_of_getElem? hx,.inr ⟨s,hk⟩⟩)))
 inj:=h.inj
 sep:=h.sep
 by_:=by obtain⟨cl,l,hM,hr⟩:=h.by_;exact⟨cl,l,hM.aA hc (hs _ (.inr (.inl rfl))),hr⟩
 added:=by obtain⟨cl,l,hM,hr⟩:=h.added;exact⟨cl,l,hM.aA hc (hs _ (.inr (.inr (.inl rfl)))),hr⟩
 ne:=h.ne
theorem cH.ext(h:cH w g rb ra ad ns)(hc:Ext w w'):cH w' g rb ra ad ns:=h.aA hc fun _ _ f=>f
theorem cH.vH(h:cH w g rb ra ad ns){k:Nat}{cs:Array Value}{t:TypeId}{fz:Nat×Nat}(hk:w.heap[k]? =some (.cells cs t fz)):k≠rb∧k≠ra:=by
 obtain⟨cl,l,hM,_⟩:=h.by_;obtain⟨cl',l',hM',_⟩:=h.added;constructor
 ·rintro rfl;unfold b7 at hM;rw [hk]at hM;cases hM
 ·rintro rfl;unfold b7 at hM';rw [hk]at hM';cases hM'
theorem cH.CE(h:cH w g rb ra ad ns):g≠rb∧g≠ra:=h.vH h.bY
theorem cH.kL(h:cH w g rb ra ad ns){i:Nat}{x:Nn}(hx:ns[i]? =some x):x.g≠g∧x.g≠rb∧x.g≠ra:=by
 have hb:=h.node i x hx;have hm:=h.vH hb;refine⟨fun e=>?_,hm.1,hm.2⟩;have hg:=h.bY;unfold aK at hb hg;rw [e,hg]at hb;injection hb with hb;injection hb with _ hb
 exact Ja hb
theorem cH.nR(h:cH w g rb ra ad ns){i:Nat}{x:Nn}(hx:ns[i]? =some x){s:Bool}{k:Nat}(hk:(x.sv s).ownBlock=some k):k≠g∧k≠rb∧k≠ra∧∀(j:Nat) (y:Nn),ns[j]? =some y→k≠y.g:=by
 obtain⟨cs,fz,hb⟩:=(h.kids i x s hx).kind hk;have hm:=h.vH hb;refine⟨?_,hm.1,hm.2,fun j y hy=>?_⟩
 ·rintro rfl;have hg:=h.bY;unfold aK at hg;rw [hg]at hb;injection hb with hb;injection hb with _ hb
  exact Jk hb
 ·rintro rfl;have hg:=h.node j y hy;unfold aK at hg;rw [hg]at hb;injection hb with hb;injection hb with _ hb
  exact Iw hb
end
def gy(ns:List Nn)(a:Nat):List Nn:=ns.modify a fun x=>{x with el:={x.el with gone:=true}}
section
variable {w w':World} {g rb ra:Nat} {ad:List aD} {ns:List Nn}
theorem pj{a i:Nat}:(gy ns a)[i]? =(ns[i]?).map fun x=>if i=a then{x with el:={x.el with gone:=true}}else x:=by
 unfold gy;rw [List.getElem?_modify];by_cases h:a=i
 ·subst h;cases ns[a]? <;>simp
 ·cases ns[i]? with
  |none=>rfl
  |some x=>simp only [Option.map_some,if_neg h,if_neg (fun e:i=a=>h e.symm)];rfl
theorem CQ{a:Nat}:aR (gy ns a)=hF (aR ns) a:=by
 refine List.ext_getElem? fun i=>?_;rw [List.getElem?_map,pj,gR,List.getElem?_map];cases ns[i]? with
 |none=>rfl
 |some x=>simp only [Option.map_some];split<;>rfl
theorem vL{a:Nat}:(gy ns a).length=ns.length:=by simp [gy]
theorem vG{a c:Nat}:fh (gy ns a) c=fh ns c:=by
 rw [fh,fh,pj];cases ns[c]? with
 |none=>rfl
 |some x=>simp only [Option.map_some];split<;>rfl
theorem gX{a i:Nat}{y:Nn}(h:(gy ns a)[i]? =some y):∃x,ns[i]? =some x∧y.g=x.g∧y.lv=x.lv∧y.rv=x.rv∧y.el.name=x.el.name∧y.el.left=x.el.left∧y.el.right=x.el.right∧y=if i=a then{x with el:={x.el with gone:=true}}else x:=by
 rw [pj]at h;obtain⟨x,hx,rfl⟩:=Option.map_eq_some_iff.1 h;refine⟨x,hx,?_,?_,?_,?_,?_,?_,rfl⟩<;>split<;>rfl
theorem cH.GK{S:Nat→Prop}(h:cH w g rb ra ad ns){a:Nat}{z:Nn}(hz:ns[a]? =some z)(hc:aE S w w')(hS:∀k,S k→k=g∨k=z.g)(hg:aK w' g TF (jA (fh ns 0) rb ra (dr (gy ns a))))(hn:aK w' z.g TN (bu {z.el with gone:=true} z.lv z.rv)):cH w' g rb ra ad (gy ns a) where
 bY:=by rw [vG];exact hg
 node i y hy:=by
  obtain⟨x,hx,_,_,_,_,_,_,hyx⟩:=gX hy;by_cases hia:i=a
  ·subst hia;rw [hz]at hx;injection hx with hx;subst hx
   rw [if_pos rfl]at hyx;subst hyx;exact hn
  ·rw [if_neg hia]at hyx;subst hyx;exact(h.node i y hx).aA hc fun hk=>by
    rcases hS _ hk with e|e
    ·exact(h.kL hx).1 e
    ·exact hia (h.inj i a _ _ hx hz e)
 kids i y s hy:=by
  obtain⟨x,hx,_,h1,h2,_,h3,h4,_⟩:=gX hy;have hsv:y.sv s=x.sv s:=by cases s<;>simp [Nn.sv,h1,h2]
  have hsd:side y.el s=side x.el s:=by cases s<;>simp [side,h3,h4]
  rw [hsv,hsd,show fh (gy ns a)=fh ns from funext fun c=>vG];refine(h.kids i x s hx).aA hc fun k hk hSk=>?_;have:=h.nR hx hk;rcases hS _ hSk with e|e
  ·exact this.1 e
  ·exact this.2.2.2 a z hz e
 inj i j y y' hy hy' e:=by
  obtain⟨x,hx,h1,_⟩:=gX hy;obtain⟨x',hx',h1',_⟩:=gX hy';exact h.inj i j x x' hx hx' (by rw [←h1,←h1',e])
 sep i j y y' s t k hy hy' e e':=by
  obtain⟨x,hx,_,h1,h2,_⟩:=gX hy;obtain⟨x',hx',_,h1',h2',_⟩:=gX hy';have hsv:y.sv s=x.sv s:=by cases s<;>simp [Nn.sv,h1,h2]
  have hsv':y'.sv t=x'.sv t:=by cases t<;>simp [Nn.sv,h1',h2']
  exact h.sep i j x x' s t k hx hx' (by rw [←hsv];exact e) (by rw [←hsv'];exact e')
 by_:=by
  obtain⟨cl,l,hM,h1,h2,h3,h4,h5⟩:=h.by_;refine⟨cl,l,hM.aA hc (fun hk=>?_),h1,h2,by rw [vL];exact h3,fun e he=>?_,fun i y hi hy=>?_⟩
  ·rcases hS _ hk with e|e
   ·exact h.CE.1 e.symm
   ·exact(h.kL hz).2.1 e.symm
  ·obtain⟨i,x,hi,hx,hn,hg⟩:=h4 e he;refine⟨i,_,hi,by rw [pj,hx];rfl,?_,?_⟩<;>split<;>first|exact hn|exact hg
  ·obtain⟨x,hx,_,_,_,hn,_⟩:=gX hy;obtain⟨e,he,hk⟩:=h5 i x hi hx;exact⟨e,he,hk.trans hn.symm⟩
 added:=by
  obtain⟨cl,l,hM,hr⟩:=h.added;refine⟨cl,l,hM.aA hc (fun hk=>?_),hr⟩;rcases hS _ hk with e|e
  ·exact h.CE.2 e.symm
  ·exact(h.kL hz).2.2 e.symm
 ne:=h.ne
noncomputable def jE(ns:List Nn)(a:Nat)(s:Bool)(r:aF)(b:UInt8)(gn:Nat)(u:Value):List Nn:=
 (ns++[(⟨⟨r,b,false,[],[]⟩,gn,.slice none 0 0,.slice none 0 0⟩:Nn)]).modify a fun z=>{el:=z.el.more (aR ns) s r,g:=z.g,lv:=cond s u z.lv,rv:=cond s z.rv u}
noncomputable abbrev jS(ns:List Nn)(z:Nn)(s:Bool)(r:aF)(u:Value):Nn:={el:=z.el.more (aR ns) s r,g:=z.g,lv:=cond s u z.lv,rv:=cond s z.rv u}
section
variable {a gn:Nat} {s:Bool} {r:aF} {b:UInt8} {u:Value}
theorem jO:(jE ns a s r b gn u).length=ns.length+1:=by simp [jE]
theorem nn(ha:a<ns.length):(jE ns a s r b gn u)[ns.length]? =some ⟨⟨r,b,false,[],[]⟩,gn,.slice none 0 0,.slice none 0 0⟩:=by
 rw [jE,List.getElem?_modify];simp;omega
theorem nt{i:Nat}{x:Nn}(hx:ns[i]? =some x):(jE ns a s r b gn u)[i]? =some (if i=a then jS ns x s r u else x):=by
 have hi:=(List.getElem?_eq_some_iff.1 hx).1;rw [jE,List.getElem?_modify,List.getElem?_append_left hi,hx];by_cases h:i=a
 ·subst h;simp
 ·rw [if_neg h];show some (if a=i then _ else x)=_;rw [if_neg (fun e=>h e.symm)]
theorem gY{i:Nat}{y:Nn}(ha:a<ns.length)(h:(jE ns a s r b gn u)[i]? =some y):(i=ns.length∧y=⟨⟨r,b,false,[],[]⟩,gn,.slice none 0 0,.slice none 0 0⟩)∨∃x,ns[i]? =some x∧y=if i=a then jS ns x s r u else x:=by
 have hi:=(List.getElem?_eq_some_iff.1 h).1;rw [jO]at hi;by_cases hn:i=ns.length
 ·subst hn;rw [nn ha]at h;exact .inl ⟨rfl,(Option.some.inj h).symm⟩
 ·obtain⟨x,hx⟩:∃x,ns[i]? =some x:=⟨_,List.getElem?_eq_getElem ai⟩;rw [nt hx]at h;exact .inr ⟨x,hx,(Option.some.inj h).symm⟩
theorem uC(ha:a<ns.length):aR (jE ns a s r b gn u)=cZ (aR ns) a s r b:=by
 have hl:(aR ns).length=ns.length:=List.length_map _;refine List.ext_getElem? fun i=>?_;rw [List.getElem?_map];by_cases hi:i<ns.length
 ·obtain⟨x,hx⟩:∃x,ns[i]? =some x:=⟨_,List.getElem?_eq_getElem hi⟩;rw [nt hx,gM (x:=x.el) (by rw [List.getElem?_map,hx];rfl)];simp only [Option.map_some];split<;>rfl
 ·by_cases hn:i=ns.length
  ·subst hn;have:=j9 (e:=aR ns) (left:=s) (r:=r) (b:=b) (by rw [hl];exact ha);rw [hl]at this;rw [nn ha,this];rfl
  ·rw [List.getElem?_eq_none_iff.2 (by rw [jO];omega),List.getElem?_eq_none_iff.2 (by rw [fa,hl];omega)];rfl
theorem rQ(ha:a<ns.length){c:Nat}:fh (jE ns a s r b gn u) c=if c=ns.length then gn else fh ns c:=by
 by_cases hc:c=ns.length
 ·subst hc;rw [if_pos rfl,fH (nn ha)]
 ·rw [if_neg hc];by_cases hl:c<ns.length
  ·obtain⟨x,hx⟩:∃x,ns[c]? =some x:=⟨_,List.getElem?_eq_getElem hl⟩;rw [fH (nt hx),fH hx];split<;>rfl
  ·rw [fh,fh,List.getElem?_eq_none_iff.2 (by rw [jO];omega),List.getElem?_eq_none_iff.2 ai]
theorem tz{z:Nn}{t:Bool}:(jS ns z s r u).sv t=if t=s then u else z.sv t:=by
 cases s<;>cases t<;>rfl
theorem zr{z:Nn}{t:Bool}:side (jS ns z s r u).el t=if t=s then tX (aR ns) r (side z.el t)else side z.el t:=by
 cases s<;>cases t<;>rfl
theorem cH.ins{S:Nat→Prop}(h:cH w g rb ra ad ns)(hd:Down (aR ns)){z:Nn}(hz:ns[a]? =some z)(hr:kX (aR ns) r=none)(hc:aE S w w')(hS:∀k,S k→k=g∨k=rb∨k=z.g∨(z.sv s).ownBlock=some k)(hgn:w.heap.size≤gn)
  (hg:aK w' g TF (jA (fh ns 0) rb ra (dr ns+1))) (hzb:aK w' z.g TN (bu (z.el.more (aR ns) s r) (cond s u z.lv) (cond s z.rv u))) (hnb:aK w' gn TN (bu ⟨r,b,false,[],[]⟩ (.slice none 0 0) (.slice none 0 0)))
  (hO:Own w' TP 1 u (b9 ((tX (aR ns) r (side z.el s)).map fun c=>if c=ns.length then gn else fh ns c))) (hf:∀k,u.ownBlock=some k→(z.sv s).ownBlock=some k∨w.heap.size≤k)
  (hM:∃cl l,b7 w rb BE.me l cl∧(∀e∈l,e.born<cl)∧(l.map BE.born).Nodup∧l.length+1=ns.length∧(∀e∈l,∃i x,0<i∧ns[i]? =some x∧x.el.name=e.k∧x.g=e.g)∧(∀(i:Nat) (x:Nn),0<i→ns[i]? =some x→∃e∈l,e.k=x.el.name)∧b7 w' rb BE.me (l++[⟨r,gn,cl⟩]) (cl+1)):
  cH w' g rb ra ad (jE ns a s r b gn u):=by
 have ha:=(List.getElem?_eq_some_iff.1 hz).1;have hpos:0<ns.length:=by omega
 have hl:(aR ns).length=ns.length:=List.length_map _;have keepN:∀i x,ns[i]? =some x→i≠a→aK w' x.g TN (bu x.el x.lv x.rv):=fun i x hx hia=>(h.node i x hx).aA hc fun hk=>by
  have:=h.kL hx;rcases hS _ hk with e|e|e|e
  ·exact this.1 e
  ·exact this.2.1 e
  ·exact hia (h.inj i a _ _ hx hz e)
  ·exact(h.nR hz e).2.2.2 i x hx rfl
 have keepK:∀i x t,ns[i]? =some x→(i≠a∨t≠s)→Own w' TP 1 (x.sv t) (b9 ((side x.el t).map (fh ns))):=fun i x t hx hne=>(h.kids i x t hx).aA hc fun k hk hSk=>by
  have:=h.nR hx hk;rcases hS _ hSk with e|e|e|e
  ·exact this.1 e
  ·exact this.2.1 e
  ·exact this.2.2.2 a z hz e
  ·have:=h.sep i a x z t s k hx hz hk e;rcases hne with hne|hne
   ·exact hne this.1
   ·exact hne this.2
 have hgs:∀(i:Nat) (x:Nn) t,ns[i]? =some x→(side x.el t).map (fh (jE ns a s r b gn u))=(side x.el t).map (fh ns):=fun i x t hx=>List.map_congr_left fun c hcm=>by
  have hxe:(aR ns)[i]? =some x.el:=by rw [List.getElem?_map,hx];rfl
  have:=hd i x.el hxe c (by cases t<;>first|exact .inr hcm|exact .inl hcm);rw [rQ ha,if_neg ai]
 refine⟨?_,fun i y hy=>?_,fun i y t hy=>?_,fun i j y y' hy hy' e=>?_,fun i j y y' t t' k hy hy' e e'=>?_,?_,?_,h.ne⟩
 ·rw [rQ ha,if_neg ai];have:dr (jE ns a s r b gn u)=dr ns+1:=by
   show(aR _).countP _=_;rw [uC ha];have hm:(cZ (aR ns) a s r b).map El.gone=(aR ns).map El.gone++[false]:=by
    refine List.ext_getElem? fun i=>?_;by_cases hi:i<(aR ns).length
    ·obtain⟨x,hx⟩:∃x,(aR ns)[i]? =some x:=⟨_,List.getElem?_eq_getElem hi⟩;rw [List.getElem?_map,gM hx,List.getElem?_append_left (by simpa using hi),List.getElem?_map,hx];simp only [Option.map_some];split
     ·rw [more_gone]
     ·rfl
    ·by_cases hn:i=(aR ns).length
     ·subst hn;rw [List.getElem?_map,j9 (by rw [hl];exact ha),List.getElem?_append_right aL];simp
     ·rw [List.getElem?_eq_none_iff.2 (by rw [List.length_map,fa];omega),List.getElem?_eq_none_iff.2 (by simp at hn hi⊢;omega)]
   have h2:=congrArg (List.countP fun x=> !x) hm;rw [List.countP_map,List.countP_append,List.countP_map]at h2;exact h2
  rw [this];exact hg
 ·rcases gY ha hy with⟨_,rfl⟩|⟨x,hx,rfl⟩
  ·exact hnb
  ·by_cases hia:i=a
   ·subst hia;rw [hz]at hx;injection hx with hx;subst hx
    rw [if_pos rfl];exact hzb
   ·rw [if_neg hia];exact keepN i x hx hia
 ·rcases gY ha hy with⟨_,rfl⟩|⟨x,hx,rfl⟩
  ·have:side (⟨r,b,false,[],[]⟩:El) t=[]:=by cases t<;>rfl
   have h2:(⟨⟨r,b,false,[],[]⟩,gn,.slice none 0 0,.slice none 0 0⟩:Nn).sv t= .slice none 0 0:=by cases t<;>rfl
   rw [h2,this];exact Own.nil
  ·by_cases hia:i=a
   ·subst hia;rw [hz]at hx;injection hx with hx;subst hx
    rw [if_pos rfl,tz,zr];by_cases hts:t=s
    ·subst hts;rw [if_pos rfl,if_pos rfl,show fh (jE ns i t r b gn u)=(fun c=>if c=ns.length then gn else fh ns c)from funext fun c=>rQ ha];exact hO
    ·rw [if_neg hts,if_neg hts,hgs i z t hz];exact keepK i z t hz (.inr hts)
   ·rw [if_neg hia,hgs i x t hx];exact keepK i x t hx (.inl hia)
 ·have hng:∀i x,ns[i]? =some x→(if i=a then jS ns x s r u else x).g=x.g:=fun i x hx=>by split<;>rfl
  rcases gY ha hy with⟨hi,rfl⟩|⟨x,hx,rfl⟩<;>rcases gY ha hy' with⟨hj,rfl⟩|⟨x',hx',rfl⟩
  ·omega
  ·rw [hng j x' hx']at e;have:=(h.node j x' hx').lt;have e:gn=x'.g:=e;omega
  ·rw [hng i x hx]at e;have:=(h.node i x hx).lt;have e:x.g=gn:=e;omega
  ·rw [hng i x hx,hng j x' hx']at e;exact h.inj i j x x' hx hx' e
 ·have hno:∀(t:Bool) (k:Nat),((⟨⟨r,b,false,[],[]⟩,gn,.slice none 0 0,.slice none 0 0⟩:Nn).sv t).ownBlock≠some k:=fun t k=>by cases t<;>simp [Nn.sv,Value.ownBlock]
  have low:∀(i:Nat) (x:Nn) (t:Bool) (k:Nat),ns[i]? =some x→(x.sv t).ownBlock=some k→k<w.heap.size:=fun i x t k hx hk=>(h.kids i x t hx).lt k hk;rcases gY ha hy with⟨hi,rfl⟩|⟨x,hx,rfl⟩
  ·exact absurd e (hno t k)
  ·rcases gY ha hy' with⟨hj,rfl⟩|⟨x',hx',rfl⟩
   ·exact absurd e' (hno t' k)
   ·have pass:∀(i:Nat) (x:Nn) (t:Bool),ns[i]? =some x→((if i=a then jS ns x s r u else x).sv t).ownBlock=some k→(i=a∧t=s∧u.ownBlock=some k)∨((x.sv t).ownBlock=some k):=fun i x t hx e=>by
     by_cases hia:i=a
     ·rw [if_pos hia,tz]at e;by_cases hts:t=s
      ·rw [if_pos hts]at e;exact .inl ⟨hia,hts,e⟩
      ·rw [if_neg hts]at e;exact .inr e
     ·rw [if_neg hia]at e;exact .inr e
    rcases pass i x t hx e with⟨rfl,rfl,e1⟩|e1<;>rcases pass j x' t' hx' e' with⟨rfl,rfl,e2⟩|e2
    ·exact⟨rfl,rfl⟩
    ·rcases hf k e1 with e3|e3
     ·exact h.sep i j z x' t t' k hz hx' e3 e2
     ·have:=low j x' t' k hx' e2;omega
    ·rcases hf k e2 with e3|e3
     ·exact h.sep i j x z t t' k hx hz e1 e3
     ·have:=low i x t k hx e1;omega
    ·exact h.sep i j x x' t t' k hx hx' e1 e2
 ·obtain⟨cl,l,_,h1,h2,h3,h4,h5,h6⟩:=hM;refine⟨cl+1,l++[⟨r,gn,cl⟩],h6,fun e he=>?_,?_,by rw [List.length_append,jO];simp;omega,fun e he=>?_,fun i y hi hy=>?_⟩
  ·rcases List.mem_append.1 he with he|he
   ·have:=h1 e he;omega
   ·simp at he;subst he;simp
  ·rw [List.map_append,List.nodup_append];refine⟨h2,by simp,fun x hx y hy=>?_⟩;obtain⟨e,he,rfl⟩:=List.mem_map.1 hx;simp at hy;subst hy;have:=h1 e he;omega
  ·rcases List.mem_append.1 he with he|he
   ·obtain⟨i,x,hi,hx,hn,hg⟩:=h4 e he;refine⟨i,_,hi,nt hx,?_,?_⟩<;>split<;>first|exact hn|exact hg|exact(more_name _ _ _ _).trans hn
   ·simp at he;subst he;exact⟨ns.length,_,hpos,nn ha,rfl,rfl⟩
  ·rcases gY ha hy with⟨_,rfl⟩|⟨x,hx,rfl⟩
   ·exact⟨⟨r,gn,cl⟩,by simp,rfl⟩
   ·obtain⟨e,he,hk⟩:=h5 i x hi hx;refine⟨e,by simp [he],hk.trans ?_⟩;split
    ·exact(more_name _ _ _ _).symm
    ·rfl
 ·obtain⟨cl,l,hMa,hrest⟩:=h.added;refine⟨cl,l,hMa.aA hc (fun hk=>?_),hrest⟩;rcases hS _ hk with e|e|e|e
  ·exact h.CE.2 e.symm
  ·exact h.ne e.symm
  ·exact(h.kL hz).2.2 e.symm
  ·exact(h.nR hz e).2.2.1 rfl
where
 more_gone (x:El) (e:List El) (s:Bool) (r:aF):(x.more e s r).gone=x.gone:=by unfold El.more;split<;>rfl
 more_name (x:El) (e:List El) (s:Bool) (r:aF):(x.more e s r).name=x.name:=by unfold El.more;split<;>rfl
end
theorem cH.look(h:cH w g rb ra ad ns)(hG:Fu.Good (aR ns)){r:aF}{cl:Nat}{l:List BE}(hM:b7 w rb BE.me l cl):xk BE.me (.pointer none) (cV BE.k r l 0)= .pointer (Ij ns r):=by
 obtain⟨cl',l',hM',_,_,_,h4,h5⟩:=h.by_;have hll:l.map BE.me=l'.map BE.me:=by
  unfold b7 at hM hM';rw [hM]at hM';injection hM' with hM';injection hM' with hM' _
  exact Array.toList_inj.2 hM'|>fun h=>by simpa using h
 have hb:∀e∈l,∃i x,0<i∧ns[i]? =some x∧dE x.el.name=dE e.k∧x.g=e.g:=fun e he=>by
  have:BE.me e∈l'.map BE.me:=by rw [←hll];exact List.mem_map_of_mem he
  obtain⟨e',he',hee⟩:=List.mem_map.1 this;obtain⟨i,x,hi,hx,hn,hg⟩:=h4 e' he';have hk:dE e'.k=dE e.k:=congrArg MapEntry.key hee;have hg':(Value.pointer (some ⟨e'.g,0,none⟩))= .pointer (some ⟨e.g,0,none⟩):=congrArg MapEntry.val hee;injection hg' with hg';injection hg' with hg';injection hg' with hg'
  exact⟨i,x,hi,hx,by rw [hn];exact hk,hg.trans hg'⟩
 have hc:∀(i:Nat) (x:Nn),0<i→ns[i]? =some x→∃e∈l,dE e.k=dE x.el.name:=fun i x hi hx=>by
  obtain⟨e,he,hk⟩:=h5 i x hi hx;have:BE.me e∈l.map BE.me:=by rw [hll];exact List.mem_map_of_mem he
  obtain⟨e',he',hee⟩:=List.mem_map.1 this;have hk':dE e'.k=dE e.k:=congrArg MapEntry.key hee;exact⟨e',he',by rw [hk',hk]⟩
 cases hf:cV BE.k r l 0 with
 |none=>
  have hno:=ot hf;show Value.pointer none=_;congr 1;unfold Ij;by_cases hr:r=aF.zero
  ·rw [if_pos hr]
  rw [if_neg hr];cases ha:kX (aR ns) r with
  |none=>rfl
  |some i=>
   obtain⟨y,hy,hn,_⟩:=lD.1 ha;rw [List.getElem?_map]at hy;obtain⟨x,hx,rfl⟩:=Option.map_eq_some_iff.1 hy;have hi:0<i:=by
    by_cases h0:i=0
    ·subst h0;have:=(hG.zero (i:=0) (x:=x.el) (by rw [List.getElem?_map,hx];rfl)).2 rfl;exact absurd (hn.symm.trans this) hr
    ·omega
   obtain⟨e,he,hk⟩:=hc i x hi hx;exact absurd (refV_inj (hk.trans (by rw [hn]))) (hno e he)
 |some p=>
  obtain⟨_,hj,hk⟩:=i5 hf;obtain⟨i,x,hi,hx,hn,hg⟩:=hb p.2 (List.mem_of_getElem? hj);have hxn:x.el.name=r:=(refV_inj hn).trans hk;have hxe:(aR ns)[i]? =some x.el:=by rw [List.getElem?_map,hx];rfl
  have hr:r≠aF.zero:=fun h0=>by
   have:=(hG.zero hxe).1 (hxn.trans h0);omega
  have:=hG.find hxe;rw [hxn]at this;rw [Ij,if_neg hr,this];show Value.pointer (some ⟨p.2.g,0,none⟩)= .pointer (some ⟨fh ns i,0,none⟩);rw [fH hx,hg]
where
 refV_inj {a b:aF} (h:dE a=dE b):a=b:=by
  have h2:aX a=aX b:=by
   injection h with h
   exact congrArg Array.toList h
  have h3:some (Value.bool a.own)=some (Value.bool b.own):=by
   have:=congrArg (fun l=>l[0]?) h2;exact this
  have h4:(aX a)[33]? =(aX b)[33]? :=by rw [h2]
  rw [lK,lK]at h4
  have h5:aN a.c=aN b.c:=by
   have h6:a.own=b.own:=by injection h3 with h3;injection h3
   unfold aX at h2
   rw [h6]at h2
   injection h2 with _ h2
   exact(List.append_inj h2 (by rw [ag a.c,ag b.c])).1
  obtain⟨o,c,n⟩:=a
  obtain⟨o',c',n'⟩:=b
  injection h3 with h3;injection h3 with h3
  injection h4 with h4;injection h4 with _ h4
  have hc:c=c':=Subtype.ext (s6 h5)
  simp only at h3 h4
  rw [h3,hc,h4]
end
theorem a7:(prog.info? TP).map (·.size)=some 1:=by kernel_rfl
theorem Kv:(prog.info? TN).map (·.size)=some 38:=by kernel_rfl
theorem Dn:(prog.info? 117).map (·.size)=some 1:=by kernel_rfl
theorem eJ:bh prog TF 0 0:=⟨_,_,1,underlying122,rfl,a7,by decide,rfl⟩
theorem gO:bh prog TF 1 1:=⟨_,_,1,underlying122,rfl,by kernel_rfl,by decide,rfl⟩
theorem ji:bh prog TF 2 2:=⟨_,_,1,underlying122,rfl,by kernel_rfl,by decide,rfl⟩
theorem eL:bh prog TF 3 3:=⟨_,_,1,underlying122,rfl,qw,by decide,rfl⟩
theorem cG:bh prog TN 0 0:=⟨_,_,34,underlying119,rfl,qe,by decide,rfl⟩
theorem k7:bh prog TN 1 34:=⟨_,_,1,underlying119,rfl,fx,by decide,rfl⟩
theorem jc:bh prog TN 2 35:=⟨_,_,1,underlying119,rfl,eO,by decide,rfl⟩
theorem dz:bh prog TN 3 36:=⟨_,_,1,underlying119,rfl,Dn,by decide,rfl⟩
theorem dC:bh prog TN 4 37:=⟨_,_,1,underlying119,rfl,Dn,by decide,rfl⟩
theorem Aj:qJ prog 62 (fun d:aF=>dE d) where
 eq w a b:=pD 9997 a b w
 check w em a:=by
  obtain⟨f0,f1,f2,hf,n0,n1,n2,t0,t1,t2,o0,o1,o2⟩:=r7;have hd:(Instr.checkKey em 9999 42 (cU a.c)).run prog w= .ok () w:=by
   obtain⟨la,hla⟩:=qZ 3 a.c;exact run_checkKey_deep em 9996 3 42 aG w 5 (cU a.c) la (by simp only [Value.formed,underlying42,qf];simp [ag]) (by simpa [Value.cells]using hla)
  have hb:(Instr.checkKey em 9999 4 (.bool a.own)).run prog w= .ok () w:=by
   rw [show(9999:Nat)=9998+1 from rfl,Instr.checkKey];simp only [Sem.run_bind,run_underlying underlying4,Result.andThen_ok];rfl
  have hi:(Instr.checkKey em 9999 3 (.int .i64 a.n)).run prog w= .ok () w:=by
   rw [show(9999:Nat)=9998+1 from rfl,Instr.checkKey];simp only [Sem.run_bind,run_underlying underlying3,Result.andThen_ok];rfl
  rw [show(10000:Nat)=9999+1 from rfl,Instr.checkKey];simp only [Sem.run_bind,run_underlying Fg,Result.andThen_ok];rw [←Array.forIn_toList,hf];simp only [List.forIn_cons,List.forIn_nil,n0,n1,n2,t0,t1,t2,o0,o1,o2,ne_eq,not_false_eq_true,if_true,Sem.run_bind,jk underlying4 rfl (AU _),jk underlying3 rfl (Ho _),sF,Hm,Result.andThen_ok,hd,hb,hi,Sem.run_pure]
 wide:=by rw [underlying62]
 same a:=sameBits_self (n:=9999) fun u hu=>by
  simp only [aX,aN,az,List.mem_cons,List.mem_append,List.mem_map,List.not_mem_nil,or_false]at hu;rcases hu with rfl|⟨b,_,rfl⟩|rfl<;>simp [bc,Instr.sameBits]
abbrev J9:=underlying120
abbrev JI:=underlying71
theorem EI(w:World):(zeroValue TP).run prog w= .ok (.pointer none) w:=by
 have h:(prog.info? TP).map (fun i=>i.zero)=some (some (.pointer none)):=by kernel_rfl
 cases hi:prog.info? TP with
 |none=>simp [hi]at h
 |some i=>simp [hi]at h;simp [zeroValue,typeInfo,hi,h]
theorem Y.Hn{n:NN}{fr:Fr}{w:World}{ty:TypeId}{x y:Operand}{g rb ra:Nat}{ad:List aD}{ns:List Nn}{r:aF}(h:cH w g rb ra ad ns)(hG:Fu.Good (aR ns))(hx:ev fr x=some (.map (some rb)))(hy:ev fr y=some (dE r)):
  Yw prog n fr (.lookup 120 x y false) ty w (.pointer (Ij ns r)) w:=by
 obtain⟨cl,l,hM,_⟩:=h.by_;have:=Y.lookup (n:=n) (ty:=ty) Aj (fun _=>rfl) J9 EI hx hy hM;rwa [h.look hG hM]at this
theorem AE.look{l:List AE}{ad:List aD}(hk:∀d,d∈l.map AE.k↔d∈ad)(d:aD):(cV AE.k d l 0).isSome=decide (d∈ad):=by
 rw [Bool.eq_iff_iff,decide_eq_true_eq,←hk d];constructor
 ·intro hs;obtain⟨⟨j,e⟩,hp⟩:=Option.isSome_iff_exists.1 hs;obtain⟨_,hj,hkk⟩:=i5 hp;exact List.mem_map.2 ⟨e,List.mem_of_getElem? hj,hkk⟩
 ·intro hm;obtain⟨e,he,hkk⟩:=List.mem_map.1 hm;cases hf:cV AE.k d l 0 with
  |none=>exact absurd hkk (ot hf e he)
  |some p=>rfl
theorem AK(d:Nat)(p:Option Addr)(w:World):(Op.equalIn (d+1) TP (.pointer p) (.pointer none)).run prog w= .ok p.isNone w:=by
 rw [Op.equalIn,Sem.run_bind,run_underlying underlying116];cases p<;>rfl
theorem AV(d:Nat)(p:Option Addr)(w:World):(Op.equalIn (d+1) 48 (.pointer p) (.pointer none)).run prog w= .ok p.isNone w:=by
 rw [Op.equalIn,Sem.run_bind,run_underlying underlying48];cases p<;>rfl
section
variable {n:NN} {fr:Fr} {w:World} {ty:TypeId} {x y:Operand} {t':TypeId} {p:Option Addr}
theorem Y.tN(hx:ev fr x=some (.pointer p))(hy:ev fr y=some (.pointer none)):Yw prog n fr (.binOp .eql TP x y t') ty w (.bool p.isNone) w:=
 Y.bin hx hy (by cases p<;>simp [eqGuard]) (by
  simp only [binOp,Op.equal,Sem.run_bind];rw [show Op.maxDepth=9999+1 from rfl,AK 9999];rfl)
theorem Y.tM(hx:ev fr x=some (.pointer p))(hy:ev fr y=some (.pointer none)):Yw prog n fr (.binOp .neq TP x y t') ty w (.bool (!p.isNone)) w:=
 Y.bin hx hy (by cases p<;>simp [eqGuard]) (by
  simp only [binOp,Op.equal,Sem.run_bind];rw [show Op.maxDepth=9999+1 from rfl,AK 9999];rfl)
theorem Y.nL(hx:ev fr x=some (.pointer p))(hy:ev fr y=some (.pointer none)):Yw prog n fr (.binOp .eql 48 x y t') ty w (.bool p.isNone) w:=
 Y.bin hx hy (by cases p<;>simp [eqGuard]) (by
  simp only [binOp,Op.equal,Sem.run_bind];rw [show Op.maxDepth=9999+1 from rfl,AV 9999];rfl)
theorem Y.tJ(hx:ev fr x=some (.pointer p))(hy:ev fr y=some (.pointer none)):Yw prog n fr (.binOp .neq 48 x y t') ty w (.bool (!p.isNone)) w:=
 Y.bin hx hy (by cases p<;>simp [eqGuard]) (by
  simp only [binOp,Op.equal,Sem.run_bind];rw [show Op.maxDepth=9999+1 from rfl,AV 9999];rfl)
end
end Go.Proofs.YtmehkigmnpjcjaaGreatDoor
namespace Go.Proofs.YtmehkigmnpjcjaaGreatDoor
open Go.RowKit Go.Fw Go.Fu Go.Proofs.Tryz
theorem qS(w:World):(Instr.build TN [(2,Value.bool true)].toArray).run prog w= .ok (.agg (bu El.root (.slice none 0 0) (.slice none 0 0)).toArray) w:=run_build w _ _ _ aG
theorem qI(g0 rb ra:Nat)(w:World):(Instr.build TF [(0,Value.pointer (some ⟨g0,0,none⟩)),(1,.map (some rb)),(2,.map (some ra))].toArray).run prog w= .ok (.agg (jA g0 rb ra 0).toArray) w:=run_build w _ _ _ aG
abbrev x5(gn:Nat):List Nn:=[⟨El.root,gn,.slice none 0 0,.slice none 0 0⟩]
theorem cH.new{w:World}{g rb ra gn:Nat}(hB:aK w g TF (jA gn rb ra 0))(hN:aK w gn TN (bu El.root (.slice none 0 0) (.slice none 0 0)))(h1:b7 w rb BE.me [] 0)(h2:b7 w ra AE.me [] 0)(hne:rb≠ra):cH w g rb ra [] (x5 gn) where
 bY:=hB
 node i x hx:=by
  cases i with
  |zero=>simp at hx;subst hx;exact hN
  |succ i=>simp at hx
 kids i x s hx:=by
  cases i with
  |zero=>simp at hx;subst hx;cases s<;>exact Own.nil
  |succ i=>simp at hx
 inj i j x y hx hy _:=by
  have h1:=(List.getElem?_eq_some_iff.1 hx).1;have h2:=(List.getElem?_eq_some_iff.1 hy).1;simp at h1 h2;omega
 sep i j x y s t k hx hy e:=by
  cases i with
  |zero=>simp at hx;subst hx;cases s<;>simp [Nn.sv,Value.ownBlock]at e
  |succ i=>simp at hx
 by_:=⟨0,[],h1,(fun e he=>nomatch he),List.nodup_nil,rfl,(fun e he=>nomatch he),fun i x hi hx=>by
  cases i with
  |zero=>omega
  |succ i=>simp at hx⟩
 added:=⟨0,[],h2,(fun e he=>nomatch he),List.nodup_nil,List.nodup_nil,fun d=>Iff.rfl⟩
 ne:=hne
theorem nj(g rb ra:Nat)(ad:List aD)(ns:List Nn)(w:World)(hT:cH w g rb ra ad ns):Calls prog 44 #[.pointer (some ⟨g,0,none⟩)] w (cB fun v w'=>v= .bool true∧Ext w w'):=by
 have hB0:=hT.bY;have hlo:∀k,Fp g rb ra ns k→k<w.heap.size:=fun k hk=>hT.lt hk;have hg0:=hB0.lt;refine ar 12 [2] [(0,.pointer (some ⟨g,0,none⟩))] func44 rfl rfl rfl aL du ?_;have hE:Ext w w:=aE.refl;refine CW.sr fun K1 hK1=>WL.a rfl<|WL.nil (hK1 _ _ ?_);clear hK1;refine CW.sr fun K2 hK2=>WL.m rfl<|WL.v (Y.tJ rfl rfl)<|WL.m rfl<|WL.wa (d:=5) (u:= .bool true) rfl (by rfl)<|WL.g rfl rfl (Y.move rfl)<|WL.g rfl rfl (Y.nilCheck rfl)<|WL.g rfl rfl (Y.fieldAddr eJ rfl)<|WL.g rfl rfl (Y.ah underlying116 rfl hB0.mem.iV rfl)<|WL.g rfl rfl (Y.tM rfl rfl)<|WL.v (Y.pick rfl rfl)<|WL.a rfl<|WL.nil (hK2 _ _ ?_);clear hK2;refine CW.ret ⟨_,rfl,?_⟩;exact⟨rfl,hE⟩
theorem wG(w:World):Calls prog 19 #[] w (cB fun v w'=>∃g rb ra gn,v= .pointer (some ⟨g,0,none⟩)∧w.heap.size≤g∧w.heap.size≤rb∧w.heap.size≤ra∧w.heap.size≤gn∧cH w' g rb ra [] (x5 gn)∧Ext w w'):=by
 refine ar 7 [0] [] func19 rfl rfl rfl aL ve ?_;have hE:Ext w w:=aE.refl;refine CW.sr fun K1 hK1=>WL.a rfl<|WL.nil (hK1 _ _ ?_);clear hK1;refine CW.sr fun K2 hK2=>WL.v (Y.build rfl (qS _))<|WL.box rfl rfl aw fun g2 w1 hx1 hg2 hB2=>?_;have hlt2:=hB2.lt;have hz1:=hx1.size;have hE:=hE.ae hx1;refine WL.st (St.makeMap) aw fun v3 w2 hR2=>?_;obtain⟨rb,rfl,hrb,hMb,hx2⟩:=hR2;have hz2:=hx2.size;have hE:=hE.ae hx2;have hB2:=hB2.ext hx2;have hlb:=(hMb BE BE.me).lt;refine WL.st (St.makeMap) aw fun v4 w3 hR3=>?_;obtain⟨ra,rfl,hra,hMa,hx3⟩:=hR3;have hz3:=hx3.size;have hE:=hE.ae hx3;have hB2:=hB2.ext hx3;refine WL.v (Y.build rfl (qI _ _ _ _))<|WL.box rfl rfl aw fun g6 w4 hx4 hg6 hB6=>?_;have hlt6:=hB6.lt;have hz4:=hx4.size;have hE:=hE.ae hx4;have hB2:=hB2.ext hx4;refine WL.a rfl<|WL.nil (hK2 _ _ ?_);clear hK2;refine CW.ret ⟨_,rfl,?_⟩;exact⟨_,rb,ra,_,rfl,by omega,by omega,by omega,by omega,cH.new hB6 hB2 (((hMb BE BE.me).ext hx3).ext hx4) ((hMa AE AE.me).ext hx4) ai,hE⟩
theorem BL(g rb ra:Nat)(ad:List aD)(ns:List Nn)(id:aD)(r:aF)(w:World)(hT:cH w g rb ra ad ns)(hG:Fu.Good (aR ns)):Calls prog 46 #[.pointer (some ⟨g,0,none⟩),cU id,dE r] w (cB fun v w'=>v=G4 ns (kX (aR ns) (res id r))∧Ext w w'):=by
 have hB0:=hT.bY;have hlo:∀k,Fp g rb ra ns k→k<w.heap.size:=fun k hk=>hT.lt hk;have hg0:=hB0.lt;refine ar 26 [6] [(0,.pointer (some ⟨g,0,none⟩)),(1,cU id),(2,dE r)] func46 rfl rfl rfl aL iI ?_;have hE:Ext w w:=aE.refl;refine CW.sr fun K1 hK1=>WL.box rfl rfl aw fun g4 w1 hx1 hg4 hB4=>?_;have hlt4:=hB4.lt;have hz1:=hx1.size;have hE:=hE.ae hx1;have hT:=hT.ext hx1;have hB0:=hB0.ext hx1;refine WL.box rfl rfl aw fun g5 w2 hx2 hg5 hB5=>?_;have hlt5:=hB5.lt;have hz2:=hx2.size;have hE:=hE.ae hx2;have hT:=hT.ext hx2;have hB0:=hB0.ext hx2;have hB4:=hB4.ext hx2;refine WL.a rfl<|WL.nil (hK1 _ _ ?_);clear hK1;refine CW.bK (X:=Unit) (fun _=>[(0,.pointer (some ⟨g,0,none⟩)),(4,.pointer (some ⟨g4,0,none⟩)),(5,.pointer (some ⟨g5,0,none⟩)),(6,.pointer none)]) (fun _ w0=>Ext w w0∧aK w0 g5 62 (aX (res id r))∧aK w0 g4 42 (aN id)∧cH w0 g rb ra ad ns∧w2.heap.size≤w0.heap.size) ?_ ?_
 ·refine CW.sr fun K3 hK3=>WL.v (Y.fieldAddr fU rfl)<|WL.v (Y.ah underlying4 rfl hB5.mem.yo rfl)<|WL.nil (hK3 _ _ ?_);clear hK3;refine bp ?_ ?_<;>intro ht4
  ·refine CW.region<|WL.v (Y.load underlying42 rfl hB4.mem (aj _) rfl)<|WL.v (Y.fieldAddr bF rfl)<|WL.v (Y.ah underlying3 rfl hB5.mem.iR rfl)<|WL.v (Y.build rfl (mf _ _ _))<|WL.store (g:=g5) (pre:=[]) (old:=aX r) (post:=[]) (new:=aX ⟨false,id,r.n⟩) rfl rfl rfl rfl (aT _) (by simpa using hB5) (by simp only [ax]) (dN) (fun w3 hc3 hB3_=>?_);have hz3:=hc3.size;have hE:=hE.step hc3 (fun k h=>by omega);have hT:=hT.aA hc3 (fun k hk h=>by have:=hlo k hk;omega);have hB0:=hB0.aA hc3 cq;have hB4:=hB4.aA hc3 cq;have hB5:aK w3 g5 62 (aX (res id r)):=by
    rw [res,if_pos (by assumption)];simpa using hB3_
   refine WL.nil ?_;exact⟨(),(by repeat (first|exact Fr.le.refl|exact Fr.le.nil|refine Fr.le.cons rfl ?_)),hE,hB5,hB4,hT,by omega⟩
  refine CW.skip ?_;exact⟨(),(by repeat (first|exact Fr.le.refl|exact Fr.le.nil|refine Fr.le.cons rfl ?_)),hE,(by rw [res,if_neg (by simp_all)];exact hB5),hB4,hT,by omega⟩
 rintro u w4 hj4;obtain⟨hE,hB5,hB4,hT,hzj⟩:=hj4;have hB0:=hT.bY;refine CW.seq fun K5 hK5=>CW.sr fun K6 hK6=>WL.v (Y.load underlying62 rfl hB5.mem (aT _) rfl)<|WL.v (Y.eQ (iw _))<|WL.v (Y.oI rfl rfl)<|WL.nil (hK6 _ _ ?_);clear hK6;refine bp ?_ ?_<;>intro ht7
 ·refine CW.sr fun K8 hK8=>WL.m rfl<|WL.v (Y.nilCheck rfl)<|WL.v (Y.fieldAddr eJ rfl)<|WL.v (Y.ah underlying116 rfl hB0.mem.iV rfl)<|WL.a rfl<|WL.nil (hK8 _ _ ?_);clear hK8;refine CW.ret ⟨_,rfl,?_⟩;exact⟨by rw [show res id r=aF.zero by assumption,hG.Kr];rfl,hE⟩
 refine CW.skip ?_;refine hK5 _ _ ?_;clear hK5;refine CW.seq fun K9 hK9=>CW.quiet (fun wq=>Ext w4 wq) aG aG aE.drew<|QL.m rfl<|QL.v (fun wq hq=>Y.nilCheck rfl)<|QL.v (fun wq hq=>Y.fieldAddr gO rfl)<|QL.v (fun wq hq=>Y.ah underlying120 rfl (hB0.ext hq).mem.jZ rfl)<|QL.v (fun wq hq=>Y.load underlying62 rfl (hB5.ext hq).mem (aT _) rfl)<|QL.v (fun wq hq=>Y.Hn (hT.ext hq) hG rfl rfl)<|QL.a rfl<|QL.nil fun w5 hx5=>?_;have hz5:=hx5.size;have hE:=hE.ae hx5;refine hK9 _ _ ?_;clear hK9;refine CW.ret ⟨_,rfl,?_⟩;exact⟨by rw [Ij,if_neg (by assumption)],hE⟩
end Go.Proofs.YtmehkigmnpjcjaaGreatDoor
