/- Parts of a proof: what its last text leans on. No condition. -/
import Derived.Shelf.SlSortCmp.NoneTotal
import Derived.Test.YtmehkigmnpjcjaaGreatDoorK07
set_option linter.unusedSimpArgs false
set_option linter.unusedVariables false
namespace Go.Pl
open Go.Fw
structure Nd where
 id:aD
 ps:List aD
def mP:List aD→Bool
 |a::b::r=>bX a b&&mP (b::r)
 |_=>true
def dx(ahead:List aD)(n:Nd):Int:=if 8<n.ps.length then 4 else if mP n.ps=false then 7 else if n.id∈ahead then 6 else if∃p∈n.ps,p∉ahead then 5 else 0
def fQ:List Nd→List aD→Nat→Nat×Int
 | [],_,_=>(0,0)
 |n::r,ahead,i=>if dx ahead n=0 then fQ r (ahead++[n.id]) (i+1)else(i,dx ahead n)
def bL(l:List Nd):Nat×Int:=if 200<l.length then(0,4)else fQ l [] 0
abbrev bz(l:List Nd):List aD:=l.map Nd.id
theorem pf:∀{l:List aD},(∀i a b,l[i]? =some a→l[i+1]? =some b→bX a b=true)→mP l=true
 | [],_=>rfl
 | [_],_=>rfl
 |a::b::r,h=>by
  rw [mP,h 0 a b rfl rfl,Bool.true_and];exact pf fun i x y hx hy=>h (i+1) x y (by simpa using hx) (by simpa using hy)
theorem sJ:∀{l:List aD} {i:Nat} {a b:aD},l[i]? =some a→l[i+1]? =some b→bX a b=false→mP l=false
 | [],_,_,_,h,_,_=>by simp at h
 | [_],i,_,_,_,h,_=>by simp at h
 |x::y::r,0,a,b,h,k,hl=>by
  simp at h k;subst h;subst k;rw [mP,hl,Bool.false_and]
 |x::y::r,i+1,a,b,h,k,hl=>by
  rw [mP,sJ (l:=y::r) (i:=i) (by simpa using h) (by simpa using k) hl,Bool.and_false]
theorem sZ{ahead:List aD}{n:Nd}(h:dx ahead n=0):n.ps.length≤8∧mP n.ps=true∧n.id∉ahead∧∀p∈n.ps,p∈ahead:=by
 unfold dx at h;split at h
 ·omega
 split at h
 ·omega
 split at h
 ·omega
 split at h
 ·omega
 rename_i h1 h2 h3 h4;refine⟨by omega,by simpa using h2,h3,fun p hp=>?_⟩;by_cases hm:p∈ahead
 ·exact hm
 ·exact absurd ⟨p,hp,hm⟩ h4
theorem qD{l:List Nd}{i:Nat}{n:Nd}(hi:l[i]? =some n)(h:dx (bz (l.take i)) n=0):fQ (l.drop i) (bz (l.take i)) i=fQ (l.drop (i+1)) (bz (l.take (i+1))) (i+1):=by
 have hlt:=(List.getElem?_eq_some_iff.1 hi).1;have hn:=(List.getElem?_eq_some_iff.1 hi).2;rw [List.drop_eq_getElem_cons hlt,hn,fQ,if_pos h,take_succ hi];simp [bz]
theorem mQ{l:List Nd}{i:Nat}{n:Nd}(hi:l[i]? =some n)(h:dx (bz (l.take i)) n≠0):fQ (l.drop i) (bz (l.take i)) i=(i,dx (bz (l.take i)) n):=by
 have hlt:=(List.getElem?_eq_some_iff.1 hi).1;have hn:=(List.getElem?_eq_some_iff.1 hi).2;rw [List.drop_eq_getElem_cons hlt,hn,fQ,if_neg h]
abbrev eu(ids:List aD):List (aD×Nat):=ids.zipIdx
def zI(e:aD×Nat):MapEntry:={key:=cU e.1,val:= .int .i64 (e.2:Int),born:=e.2}
theorem da{d:aD}:∀{ids:List aD} {k i:Nat},(cV Prod.fst d (ids.zipIdx k) i).isSome=decide (d∈ids)
 | [],_,_=>by simp [cV]
 |x::r,k,i=>by
  rw [List.zipIdx_cons,cV];by_cases h:x=d
  ·simp [h]
  ·have h':¬d=x:=fun e=>h e.symm;rw [if_neg h,da (ids:=r)];simp [h']
theorem mA{d:aD}:∀{ids:List aD} {k i j:Nat} {e:aD×Nat},cV Prod.fst d (ids.zipIdx k) i=some (j,e)→e.1=d∧ids[e.2-k]? =some d∧k≤e.2∧∀x,x<e.2-k→ids[x]? ≠some d
 | [],_,_,_,_,h=>by simp [cV]at h
 |x::r,k,i,j,e,h=>by
  rw [List.zipIdx_cons,cV]at h;split at h
  ·rename_i hx;cases h
   refine⟨hx,by simpa using hx,Nat.le_refl _,fun y hy=>by simp at hy⟩
  ·rename_i hx;obtain⟨h1,h2,h3,h4⟩:=mA (ids:=r) (k:=k+1) h;have e1:e.2-k=(e.2-(k+1))+1:=by omega
   refine⟨h1,by rw [e1,List.getElem?_cons_succ];exact h2,by omega,fun y hy=>?_⟩;cases y with
   |zero=>simp only [List.getElem?_cons_zero];intro he;cases he;exact hx rfl
   |succ y=>rw [List.getElem?_cons_succ];exact h4 y ai
theorem qK{d:aD}{ids:List aD}(h:d∉ids):cV Prod.fst d (eu ids) 0=none:=by
 have:=da (d:=d) (ids:=ids) (k:=0) (i:=0);simpa [h]using this
theorem tu(ids:List aD)(d:aD):eu (ids++[d])=eu ids++[(d,ids.length)]:=by simp [eu,List.zipIdx_append]
end Go.Pl
namespace Go.Fw
open Go.Pl
structure gj where
 n:Nd
 A:Option Addr
 c:Nat
abbrev gj.pv(x:gj):Value:= .slice x.A x.n.ps.length x.c
def ob(x:gj):List Value:=aN x.n.id++[x.pv]
theorem cW(x:gj):(ob x).length=33:=by simp [ob,ag]
abbrev H2(x:gj):Value:= .agg (ob x).toArray
theorem pb{x:gj}:∀u∈ob x,u.oneCell'=true:=by
 intro u hu;simp only [ob,List.mem_append,List.mem_singleton]at hu;rcases hu with hu|rfl
 ·exact bV u hu
 ·rfl
theorem Y.Jp{P:Program}{n:NN}{fr:Fr}{w:World}{ty:TypeId}{x y:Operand}{p q:Nat}{t t':TypeId}(hx:ev fr x=some (.int .i64 (p:Int)))(hy:ev fr y=some (.int .i64 (q:Int)))(h:q≤p)(hb:p≤9223372036854775807):
  Yw P n fr (.binOp .sub t x y t') ty w (.int .i64 ((p-q:Nat):Int)) w:=by
 have:=Y.sub (P:=P) (n:=n) (w:=w) (ty:=ty) (t:=t) (t':=t') hx hy bB;rwa [show(p:Int)-(q:Int)=((p-q:Nat):Int)by omega]at this
def gj.zero:gj:=⟨⟨aD.zero,[]⟩,none,0⟩
section
variable {w:World} {a:Addr} {id:aD} {ps:List aD} {A:Option Addr} {c:Nat}
theorem Mem.nC(h:Mem w a (ob ⟨⟨id,ps⟩,A,c⟩)):Mem w (a.add 0) (aN id):=h.sub 0 fun j v hj=>by
 have hlt:j<(aN id).length:=(List.getElem?_eq_some_iff.1 hj).1;rw [Nat.zero_add,ob,List.getElem?_append_left hlt];exact hj
theorem Mem.node1(h:Mem w a (ob ⟨⟨id,ps⟩,A,c⟩)):w.cell? (a.add 32)=some (.slice A ps.length c):=h.cell 32 (by
 rw [ob,List.getElem?_append_right (by rw [ag];omega),ag];rfl)
end
structure oR(w:World)(u:Value)(l:List gj):Prop where
 sl:Sl w ob 33 u l
 ps:∀x∈l,Sl w aN 32 x.pv x.n.ps
theorem oR.ext{w w':World}{u:Value}{l:List gj}(h:oR w u l)(hc:Ext w w'):oR w' u l:=⟨h.sl.ext hc,fun x hx=>(h.ps x hx).ext hc⟩
abbrev aQ(l:List gj):List Nd:=l.map gj.n
end Go.Fw
namespace Go.Proofs.YtmehkigmnpjcjaaGreatDoor
open Go.RowKit Go.Fw Go.Pl Go.Proofs.Tryz
abbrev vf:TypeId:=44
theorem cc:(prog.info? vf).map (·.size)=some 33:=by kernel_rfl
theorem od(x:gj):(prog.info? vf).map (·.size)=some (ob x).length:=by rw [cW];exact cc
theorem DS:(prog.info? 25).map (·.size)=some 1:=by kernel_rfl
theorem dX:bh prog vf 0 0:=⟨_,_,32,underlying44,rfl,qA,by decide,rfl⟩
theorem dW:bh prog vf 1 32:=⟨_,_,1,underlying44,rfl,DS,by decide,rfl⟩
theorem vv:∃i:TypeInfo,prog.info? vf=some i∧i.zero=some (H2 gj.zero)∧i.size=33:=by
 have h:(prog.info? vf).map (fun i=>(i.zero,i.size))=some (some (H2 gj.zero),33):=by kernel_rfl
 cases hi:prog.info? vf with
 |none=>simp [hi]at h
 |some i=>simp [hi]at h;exact⟨i,rfl,h.1,h.2⟩
theorem mU(w:World):(zeroValue 3).run prog w= .ok (.int .i64 0) w:=by
 have h:(prog.info? 3).map (fun i=>i.zero)=some (some (.int .i64 0)):=by kernel_rfl
 cases hi:prog.info? 3 with
 |none=>simp [hi]at h
 |some i=>simp [hi]at h;simp [zeroValue,typeInfo,hi,h]
end Go.Proofs.YtmehkigmnpjcjaaGreatDoor
namespace Go.Proofs.YtmehkigmnpjcjaaGreatDoor
open Go.RowKit Go.Fw Go.Pl Go.Proofs.Tryz
theorem xN{α:Type}{enc:α→List Value}(h:∀x,∀u∈enc x,u.oneCell'=true){xs:List α}:∀u∈(xs.map enc).flatten,u.oneCell'=true:=by
 intro u hu;obtain⟨l,hl,hu⟩:=List.mem_flatten.1 hu;obtain⟨d,_,rfl⟩:=List.mem_map.1 hl;exact h d u hu
end Go.Proofs.YtmehkigmnpjcjaaGreatDoor
namespace Go.Pl
open Go.Fw
def ml(d:aD):List aD→Nat
 | []=>0
 |x::r=>if bX x d=true then ml d r+1 else 0
def px(out:List aD)(d:aD):List aD:=if out[ml d out]? =some d then out else out.take (ml d out)++d::out.drop (ml d out)
def nz(l:List aD):List aD:=l.foldl px []
theorem yq(d:aD):∀out,ml d out≤out.length
 | []=>Nat.le_refl _
 |x::r=>by
  rw [ml];split
  ·have:=yq d r;simp only [List.length_cons];omega
  ·exact Nat.zero_le _
theorem wP{d:aD}:∀{out:List aD} {k:Nat},k≤out.length→(∀j x,j<k→out[j]? =some x→bX x d=true)→(∀x,out[k]? =some x→bX x d=false)→ml d out=k
 | [],k,hk,_,_=>by simp at hk;subst hk;rfl
 |y::r,0,_,_,h2=>by rw [ml,if_neg (by rw [h2 y rfl];decide)]
 |y::r,k+1,hk,h1,h2=>by
  rw [ml,if_pos (h1 0 y ai rfl),wP (by simpa using hk) (fun j x hj hx=>h1 (j+1) x ai (by simpa using hx)) (fun x hx=>h2 x (by simpa using hx))]
theorem EN(out:List aD)(d:aD):(px out d).length≤out.length+1:=by
 unfold px;split
 ·omega
 ·have:=yq d out;rw [List.length_append,List.length_cons,List.length_take,List.length_drop];omega
theorem Cs(l:List aD):∀out:List aD,(l.foldl px out).length≤out.length+l.length:=by
 induction l with
 |nil=>intro out;simp
 |cons d l ih=>
  intro out;have h1:=ih (px out d);have h2:=EN out d;simp only [List.foldl_cons,List.length_cons];omega
theorem Bl{l:List aD}{i:Nat}{d:aD}(h:l[i]? =some d):nz (l.take (i+1))=px (nz (l.take i)) d:=by
 rw [take_succ h,nz,List.foldl_append];rfl
end Go.Pl
namespace Go.Fw
open Go.RowKit
theorem Sl.at{α:Type}{w:World}{enc:α→List Value}{k:Nat}{A:Option Addr}{m c:Nat}{xs:List α}(h:Sl w enc k (.slice A m c) xs){i:Nat}{x:α}(hx:xs[i]? =some x):∃a,A=some a∧Mem w (a.add (i*k)) (enc x):=by
 obtain⟨A',m',c',e,_,_,_,hls⟩:=h;injection e with e1
 subst e1;exact hls i x hx
end Go.Fw
namespace Go.Proofs.YtmehkigmnpjcjaaGreatDoor
open Go.RowKit Go.Fw Go.Pl Go.Proofs.Tryz
abbrev pX:TypeId:=42
set_option maxRecDepth 20000 in
theorem s4(u:Value)(l:List aD)(w:World)(hu:Sl w aN 32 u l)(hp:l.length*32≤140737488351232):Calls prog 64 #[u] w (cB fun v w'=>Own w' pX 32 v (cn (nz l))∧(∀k,v.ownBlock=some k→w.heap.size≤k)∧Ext w w'):=by
 have hl:=hu;obtain⟨A,m,c,rfl,hm,hmc,hcm,_⟩:=hu;unfold maxLen at hcm;refine ar 63 [2] [(0,.slice A m c)] func64 rfl rfl rfl aL du ?_;have hE:Ext w w:=aE.refl;refine CW.sr fun K1 hK1=>WL.a rfl<|WL.nil (hK1 _ _ ?_);clear hK1;refine CW.sr fun K2 hK2=>WL.a rfl<|WL.nil (hK2 _ _ ?_);clear hK2;refine CW.seq fun K3 hK3=>CW.sr fun K4 hK4=>WL.a rfl<|WL.nil (hK4 _ _ ?_);clear hK4;refine CW.block ?_;refine CW.loop (X:=Nat×Value) (fun x=>[(0,.slice A m c),(3,x.2),(4,.int .i64 (x.1:Int))]) (fun x w0=>x.1≤m∧Own w0 pX 32 x.2 (cn (nz (l.take x.1)))∧(∀k,x.2.ownBlock=some k→w.heap.size≤k)∧Ext w w0) (fun x=>m-x.1) (0,.slice none 0 0) Fr.ok ⟨Nat.zero_le _,Own.nil,(fun k h=>by simp [Value.ownBlock]at h),hE⟩ ?_;intro x w1 hl1;obtain⟨i,u⟩:=x;dsimp only at hl1⊢;obtain⟨hi,hO,hfu,hE⟩:=hl1;obtain⟨B,mb,cb,rfl⟩:=hO.lens;obtain⟨hlen,hmb,hcb⟩:=hO.len ag aw;have hmi:mb≤i:=by have:=Cs (l.take i) [];rw [List.length_take,List.length_nil]at this;unfold nz at hlen;omega
 have hz1:=hE.size;obtain⟨out,hout⟩:∃out,out=nz (l.take i):=⟨_,rfl⟩;rw [←hout]at hO hlen;refine CW.seq fun K5 hK5=>CW.sr fun K6 hK6=>WL.m rfl<|WL.m rfl<|WL.v (Y.aq underlying25 rfl)<|WL.v (Y.lss rfl rfl)<|WL.nil (hK6 _ _ ?_);clear hK6;refine bp ?_ ?_<;>intro ht7
 ·refine CW.skip ?_;refine hK5 _ _ ?_;clear hK5;obtain⟨d,hd⟩:∃d,l[i]? =some d:=⟨_,List.getElem?_eq_getElem ai⟩;obtain⟨a,rfl,hma⟩:=hl.at hd;refine CW.bK (X:=Value) (fun u=>[(0,.slice (some a) m c),(3,u),(4,.int .i64 (i:Int))]) (fun u w0=>Own w0 pX 32 u (cn (px out d))∧(∀k,u.ownBlock=some k→w.heap.size≤k)∧Ext w w0) ?_ ?_
  ·refine CW.block<|CW.sr fun K9 hK9=>WL.a rfl<|WL.nil (hK9 _ _ ?_);clear hK9;refine CW.seq fun K10 hK10=>?_;refine CW.block ?_;refine CW.loop (X:=Nat) (fun x=>[(0,.slice (some a) m c),(3,.slice B mb cb),(4,.int .i64 (i:Int)),(5,.int .i64 (x:Int))]) (fun x w0=>x≤mb∧(∀j y,j<x→out[j]? =some y→bX y d=true)∧Ext w1 w0) (fun x=>mb-x) 0 Fr.ok ⟨Nat.zero_le _,(fun j y h=>absurd h ai),aE.refl⟩ ?_;intro x w2 hl2;obtain⟨hxm,hles,hx12⟩:=hl2;have hE:=hE.ae hx12;have hz2:=hx12.size;have hO:=hO.ext hx12;have hlo:=hO.lt;obtain⟨y,hy⟩:∃y:aD,x<mb→out[x]? =some y:=by
    by_cases h:x<mb
    ·exact⟨_,fun _=>List.getElem?_eq_getElem (by rw [hlen];exact h)⟩
    ·exact⟨d,fun h'=>absurd h' h⟩
   refine CW.seq fun K11 hK11=>?_;refine CW.cP 27 (x<mb∧bX y d=true) ?_ ?_
   ·refine CW.quiet (fun wq=>Ext w2 wq) aG aG aE.drew<|QL.m rfl<|QL.m rfl<|QL.v (fun wq hq=>Y.aq underlying25 rfl)<|QL.v (fun wq hq=>Y.lss rfl rfl)<|QL.m rfl ?_;refine dO ?_ ?_<;>intro hg17
    ·obtain⟨b,rfl,hmb1⟩:=(hO.sl ag aw).at (hy ai);refine QL.g rfl rfl (fun wq hq=>Y.move rfl)<|QL.g rfl rfl (fun wq hq=>Y.move rfl)<|QL.g rfl rfl (fun wq hq=>Y.af underlying25 rfl rfl aJ ai)<|QL.g rfl rfl (fun wq hq=>Y.load underlying42 rfl (hmb1.ext hq) (aj _) rfl)<|QL.g rfl rfl (fun wq hq=>Y.move rfl)<|QL.g rfl rfl (fun wq hq=>Y.move rfl)<|QL.g rfl rfl (fun wq hq=>Y.af underlying25 rfl rfl aJ ai)<|QL.g rfl rfl (fun wq hq=>Y.load underlying42 rfl (hma.ext (hE.ae hq)) (aj _) rfl)<|QL.lz rfl rfl func89 rfl rfl rfl (fun wq hq=>cA (ni _ _ _) hq) aw<|QL.v (fun wq hq=>Y.pick rfl rfl)<|QL.nil fun wq hq=>⟨⟨_,rfl,?_⟩,hq,Fr.cT⟩;exact aH
    ·refine QL.o rfl rfl<|QL.o rfl rfl<|QL.o rfl rfl<|QL.o rfl rfl<|QL.o rfl rfl<|QL.o rfl rfl<|QL.o rfl rfl<|QL.o rfl rfl<|QL.o rfl rfl<|QL.v (fun wq hq=>Y.pick rfl rfl)<|QL.nil fun wq hq=>⟨⟨_,rfl,?_⟩,hq,Fr.cT⟩;exact aH
   intro w3 hx3;have hz3:=hx3.size;have hE:=hE.ae hx3;refine bp ?_ ?_<;>intro ht12
   ·refine CW.skip ?_;refine hK11 _ _ ?_;clear hK11;refine CW.block<|CW.region<|WL.m rfl<|WL.v (Y.add rfl rfl bB)<|WL.a rfl<|WL.nil ?_;refine⟨x+1,by show mb-(x+1)<mb-x;omega,Fr.ok,by show x+1≤mb;omega,?_,hx12.ae hx3⟩;intro j z hj hz;by_cases he:j=x
    ·subst he;rw [hy ai]at hz;cases hz;exact ht12.2
    ·exact hles j z ai hz
   have hat:ml d out=x:=wP ai hles fun z hz=>by
    have hlt:=(List.getElem?_eq_some_iff.1 hz).1;rw [hy ai]at hz;cases hz
    cases hc:bX y d with
    |false=>rfl
    |true=>exact absurd ⟨by omega,hc⟩ ht12
   refine CW.exit ?_;refine hK10 _ _ ?_;clear hK10;refine CW.cP 44 (x=mb∨y≠d) ?_ ?_
   ·refine CW.quiet (fun wq=>Ext w3 wq) aG aG aE.drew<|QL.m rfl<|QL.m rfl<|QL.v (fun wq hq=>Y.aq underlying25 rfl)<|QL.v (fun wq hq=>Y.eql rfl rfl)<|QL.m rfl ?_;refine dO ?_ ?_<;>intro hg34
    ·refine QL.o rfl rfl<|QL.o rfl rfl<|QL.o rfl rfl<|QL.o rfl rfl<|QL.o rfl rfl<|QL.o rfl rfl<|QL.o rfl rfl<|QL.o rfl rfl<|QL.o rfl rfl<|QL.v (fun wq hq=>Y.pick rfl rfl)<|QL.nil fun wq hq=>⟨⟨_,rfl,?_⟩,hq,Fr.cT⟩;exact aH
    ·obtain⟨b,rfl,hmb1⟩:=((hO.ext hx3).sl ag aw).at (hy ai);refine QL.g rfl rfl (fun wq hq=>Y.move rfl)<|QL.g rfl rfl (fun wq hq=>Y.move rfl)<|QL.g rfl rfl (fun wq hq=>Y.af underlying25 rfl rfl aJ ai)<|QL.g rfl rfl (fun wq hq=>Y.load underlying42 rfl (hmb1.ext hq) (aj _) rfl)<|QL.g rfl rfl (fun wq hq=>Y.move rfl)<|QL.g rfl rfl (fun wq hq=>Y.move rfl)<|QL.g rfl rfl (fun wq hq=>Y.af underlying25 rfl rfl aJ ai)<|QL.g rfl rfl (fun wq hq=>Y.load underlying42 rfl (hma.ext (hE.ae hq)) (aj _) rfl)<|QL.g rfl rfl (fun wq hq=>Y.jg rfl rfl)<|QL.v (fun wq hq=>Y.pick rfl rfl)<|QL.nil fun wq hq=>⟨⟨_,rfl,?_⟩,hq,Fr.cT⟩;exact aH
   intro w4 hx4;have hz4:=hx4.size;have hE:=hE.ae hx4;refine bp ?_ ?_<;>intro ht13
   ·refine CW.sr fun K14 hK14=>WL.a rfl<|WL.nil (hK14 _ _ ?_);clear hK14;refine CW.sr fun K15 hK15=>WL.m rfl<|WL.m rfl<|WL.m rfl<|WL.v (Y.mD underlying25 rfl rfl aJ rfl ai)<|WL.st (St.append underlying25 underlying25 fR rfl rfl Own.nil ((hO.ext (hx3.ae hx4)).Gh ag aw (j:=x) ai) (xN fun x=>bV) (by simp;omega)) aw fun v49 w5 hR5=>?_;have hn0:∀k,(Value.slice none 0 0).ownBlock=some k→w4.heap.size≤k:=fun k h=>by simp [Value.ownBlock]at h
    obtain⟨hO5,hc5,hf5⟩:=hR5;have hz5:=hc5.size;have hE:=hE.step hc5 (fun k h=>by have:=hn0 k h;omega);have hf5:∀k,v49.ownBlock=some k→w4.heap.size≤k:=by
     rcases hf5 with h|h
     ·intro k hk;rw [h]at hk;exact hn0 k hk
     ·intro k hk;have:=h k hk;omega
    obtain⟨A5,m5,c5,rfl⟩:=hO5.lens;have hO:=(hO.ext (hx3.ae hx4)).aA hc5 (fun k hk h=>by have:=hlo k hk;have:=hn0 k h;omega);refine WL.a rfl<|WL.nil (hK15 _ _ ?_);clear hK15;refine CW.sr fun K16 hK16=>WL.m rfl<|WL.m rfl<|WL.m rfl<|WL.v (Y.af underlying25 rfl rfl aJ ai)<|WL.v (Y.load underlying42 rfl (hma.ext hE) (aj _) rfl)<|WL.st (St.buildSlice rfl (kI _)) aw fun v55 w6 hR6=>?_;obtain⟨g55,rfl,hg55,hB55,hx6⟩:=hR6;have hz6:=hx6.size;have hE:=hE.ae hx6;refine WL.st (St.append underlying25 underlying25 fR rfl rfl (hO5.ext hx6) (Src.one hB55 (ag _)) bV (by rw [List.nil_append,aO ag,List.length_take];omega)) aw fun v56 w7 hR7=>?_;obtain⟨hO7,hc7,hf7⟩:=hR7;have hz7:=hc7.size;have hE:=hE.step hc7 (fun k h=>by have:=hf5 k h;omega);have hf7:∀k,v56.ownBlock=some k→w4.heap.size≤k:=by
     rcases hf7 with h|h
     ·intro k hk;rw [h]at hk;exact hf5 k hk
     ·intro k hk;have:=h k hk;omega
    obtain⟨A7,m7,c7,rfl⟩:=hO7.lens;have hO:=(hO.ext hx6).aA hc7 (fun k hk h=>by have:=hlo k hk;have:=hf5 k h;omega);refine WL.a rfl<|WL.nil (hK16 _ _ ?_);clear hK16;refine CW.region<|WL.m rfl<|WL.m rfl<|WL.m rfl<|WL.v (Y.gH underlying25 rfl rfl aJ rfl ai)<|WL.st (St.append underlying25 underlying25 fR rfl rfl hO7 (hO.GJ ag aw (j:=x) ai) (xN fun x=>bV) (by rw [List.length_append,List.nil_append,aO ag,List.length_take,ag];omega)) aw fun v61 w8 hR8=>?_;obtain⟨hO8,hc8,hf8⟩:=hR8;have hz8:=hc8.size;have hE:=hE.step hc8 (fun k h=>by have:=hf7 k h;omega);have hf8:∀k,v61.ownBlock=some k→w4.heap.size≤k:=by
     rcases hf8 with h|h
     ·intro k hk;rw [h]at hk;exact hf7 k hk
     ·intro k hk;have:=h k hk;omega
    obtain⟨A8,m8,c8,rfl⟩:=hO8.lens;refine WL.a rfl<|WL.nil ?_;refine⟨.slice A8 m8 c8,Fr.ok,?_,fun k hk=>by have:=hf8 k hk;omega,hE⟩;rw [px,hat,if_neg (by
     intro h;have hlt:=(List.getElem?_eq_some_iff.1 h).1;rcases ht13 with h3|h3
     ·omega
     ·rw [hy ai]at h;cases h;exact h3 rfl)]
    simpa [cn]using hO8
   refine CW.skip ?_;obtain⟨h1,h2⟩:=not_or.1 ht13;have h3:y=d:=Classical.not_not.1 h2;refine⟨.slice B mb cb,Fr.ok,?_,fun k hk=>by have:=hfu k hk;omega,hE⟩;rw [px,hat,if_pos (by rw [hy ai,h3])];exact hO.ext (hx3.ae hx4)
  rintro u w9 hj9;obtain⟨hO,hfu,hE⟩:=hj9;refine CW.region<|WL.m rfl<|WL.v (Y.add rfl rfl bB)<|WL.a rfl<|WL.nil ?_;refine⟨(i+1,u),by show m-(i+1)<m-i;omega,Fr.ok,by show i+1≤m;omega,?_,hfu,hE⟩;show Own _ _ _ _ (cn (nz (l.take (i+1))));rw [Bl hd,←hout];exact hO
 refine CW.exit ?_;refine hK3 _ _ ?_;clear hK3;refine CW.sr fun K17 hK17=>WL.m rfl<|WL.a rfl<|WL.nil (hK17 _ _ ?_);clear hK17;refine CW.ret ⟨_,rfl,?_⟩;refine⟨?_,hfu,hE⟩;rw [hout,List.take_of_length_le ai]at hO;exact hO
end Go.Proofs.YtmehkigmnpjcjaaGreatDoor
namespace Go.Pl
open Go.Fw Go.Proofs Go.Sort
theorem xQ:∀{a b:List UInt8},Op.bytesLess a b=true→Op.bytesLess b a=false
 |_,[],h=>by simp [Op.bytesLess]at h
 | [],_::_,_=>by simp [Op.bytesLess]
 |a::x,b::y,h=>by
  simp only [Op.bytesLess,Bool.or_eq_true,decide_eq_true_eq,Bool.and_eq_true,beq_iff_eq]at h;simp only [Op.bytesLess,Bool.or_eq_false_iff,decide_eq_false_iff_not,Bool.and_eq_false_imp,beq_iff_eq];rcases h with h|⟨rfl,h⟩
  ·exact⟨fun h'=>by have:=UInt8.lt_iff_toNat_lt.1 h;have:=UInt8.lt_iff_toNat_lt.1 h';omega,fun e=>by subst e;exact absurd h (UInt8.lt_irrefl _)⟩
  ·exact⟨UInt8.lt_irrefl _,fun _=>xQ h⟩
theorem wM:∀{a b c:List UInt8},Op.bytesLess a b=true→Op.bytesLess b c=true→Op.bytesLess a c=true
 |_,[],_,h,_=>by simp [Op.bytesLess]at h
 |_,_::_,[],_,h=>by simp [Op.bytesLess]at h
 | [],_::_,_::_,_,_=>by simp [Op.bytesLess]
 |a::x,b::y,c::z,h,k=>by
  simp only [Op.bytesLess,Bool.or_eq_true,decide_eq_true_eq,Bool.and_eq_true,beq_iff_eq]at h k⊢;rcases h with h|⟨rfl,h⟩
  ·rcases k with k|⟨rfl,k⟩
   ·exact .inl (UInt8.lt_trans h k)
   ·exact .inl h
  ·rcases k with k|⟨rfl,k⟩
   ·exact .inl k
   ·exact .inr ⟨rfl,wM h k⟩
theorem Ep:∀{a b:List UInt8},a.length=b.length→Op.bytesLess a b=false→Op.bytesLess b a=false→a=b
 | [],[],_,_,_=>rfl
 | [],_::_,h,_,_=>by simp at h
 |_::_,[],h,_,_=>by simp at h
 |a::x,b::y,hl,h,k=>by
  simp only [Op.bytesLess,Bool.or_eq_false_iff,decide_eq_false_iff_not,Bool.and_eq_false_imp,beq_iff_eq]at h k;have e:a=b:=UInt8.toNat_inj.1 (by
   have h1:¬a.toNat<b.toNat:=fun x=>h.1 (UInt8.lt_iff_toNat_lt.2 x);have h2:¬b.toNat<a.toNat:=fun x=>k.1 (UInt8.lt_iff_toNat_lt.2 x);omega)
  subst e;rw [Ep (by simpa using hl) (h.2 rfl) (k.2 rfl)]
theorem sm{a b:aD}(h:bX a b=true):bX b a=false:=xQ h
theorem oL{a b c:aD}(h:bX a b=true)(k:bX b c=true):bX a c=true:=wM h k
theorem pI{a b:aD}(h:bX a b=false)(k:bX b a=false):a=b:=Subtype.ext (Ep (by rw [a.2,b.2]) h k)
theorem jr(a:aD):bX a a=false:=fW _
def H6(a b:aD):Int:=if bX a b=true then-1 else 1
theorem k8(a b:aD):ltOf H6 a b=bX a b:=by
 unfold ltOf H6;cases bX a b<;>simp
theorem Av:SWO (ltOf H6) where
 irrefl x:=by rw [k8];exact jr x
 trans x y z h k:=by rw [k8]at h k⊢;exact oL h k
 ntrans x y z h k:=by
  rw [k8]at h k⊢;cases hc:bX x z with
  |false=>rfl
  |true=>
   cases hd:bX y x with
   |true=>rw [oL hd hc]at k;cases k
   |false=>
    have:=pI h hd;subst this;rw [hc]at k;cases k
def iy(l:List aD):List aD:=l.mergeSort fun x y=> !(ltOf H6) y x
end Go.Pl
namespace Go.Fw
open Go.RowKit Go.Proofs Go.Sort
theorem flat_get{α:Type}{enc:α→List Value}{k:Nat}(hk:0<k)(he:∀x,(enc x).length=k):∀(xs:List α) (t:Nat),((xs.map enc).flatten)[t]? =(xs[t/k]?).bind fun x=>(enc x)[t % k]?
 | [],t=>by simp
 |x::xs,t=>by
  simp only [List.map_cons,List.flatten_cons,List.getElem?_append,he];split
  ·rename_i h;rw [Nat.div_eq_of_lt h,Nat.mod_eq_of_lt h];rfl
  ·rename_i h;have e1:t/k=(t-k)/k+1:=Nat.div_eq_sub_div hk ai;have e2:t % k=(t-k) % k:=Nat.mod_eq_sub_mod ai;rw [flat_get hk he xs,e1,e2,List.getElem?_cons_succ]
theorem lJ{α:Type} [Inhabited α]{enc:α→List Value}{k:Nat}(hk:0<k)(he:∀x,(enc x).length=k)(xs:List α):(flatK enc k xs.toArray).toList=(xs.map enc).flatten:=by
 apply List.ext_getElem?;intro t;rw [flat_get hk he];by_cases ht:t<xs.length*k
 ·have h1:t/k<xs.length:=Nat.div_lt_of_lt_mul (by rw [Nat.mul_comm];exact ht);have h2:t % k<(enc xs[t/k]).length:=by rw [he];exact Nat.mod_lt _ hk
  have h3:t<(flatK enc k xs.toArray).size:=by rw [size_flatK];exact ht
  have h4:=get_flatK enc k xs.toArray t (by simpa using ht);rw [getElem!_pos _ t h3,getElem!_pos xs.toArray (t/k) (by simpa using h1)]at h4;rw [Array.getElem?_toList,Array.getElem?_eq_getElem h3,h4,List.getElem?_eq_getElem h1,Option.bind_some,List.getElem?_eq_getElem h2];simp only [List.getElem_toArray];rw [getElem!_pos (enc xs[t/k]) (t % k) h2]
 ·have h1:¬t/k<xs.length:=fun h=>ht (Nat.lt_mul_of_div_lt h hk);rw [Array.getElem?_toList,Array.getElem?_eq_none (by rw [size_flatK];simpa using ht),List.getElem?_eq_none ai];rfl
theorem tK(F:Array Value)(xs rest:List Value)(h:F.size=xs.length):putCells id 0 F (xs++rest).toArray=(F.toList++rest).toArray:=by
 apply Array.ext_getElem?;intro j;simp only [putCells,Array.getElem?_mapIdx,List.getElem?_toArray,List.getElem?_append,Nat.zero_le,true_and,Nat.zero_add,Nat.sub_zero,id];by_cases hj:j<F.size
 ·rw [if_pos ai,if_pos (by simpa using hj),List.getElem?_eq_getElem ai,Array.getElem?_toList,Array.getElem?_eq_getElem hj];simp only [Option.map_some,if_pos hj];rw [getElem!_pos F j hj]
 ·rw [if_neg ai,if_neg (by simpa using hj),h];simp only [if_neg (show¬j<xs.length by omega),Array.length_toList,h];cases rest[j-xs.length]? <;>rfl
section
variable {w:World} {e:TypeId} {k g n c:Nat} {α:Type} [Inhabited α] {enc:α→List Value} {l:List α}
theorem Own.holds (hk : 0 < k) (he : ∀ x, (enc x).length = k) (h : Own w e k (.slice (some ⟨g, 0, none⟩) n c) ((l.map enc).flatten)) : HoldsK enc k w g 0 l.toArray ∧ g < w.heap.size := by
  rcases h with ⟨h, _⟩ | ⟨g', n', c', rest, fz, h, hh, hxl, hnc, hcm, hal, hfz⟩
  · cases h
  injection h with h2 h3 h4
  injection h2 with h2
  injection h2 with h2
  subst h2; subst h3; subst h4
  refine ⟨fun j hj => ?_, (Array.getElem?_eq_some_iff.1 hh).1⟩
  have hj' : j < (flatK enc k l.toArray).toList.length := by simpa using hj
  have hjx : j < ((l.map enc).flatten).length := by rw [← lJ hk he]; exact hj'
  refine ⟨?_, ?_⟩
  · rw [Nat.zero_add]
    unfold World.cell?
    simp only [hh]
    simp only [List.getElem?_toArray]
    rw [List.getElem?_append_left hjx, ← lJ hk he, Array.getElem?_toList, Array.getElem?_eq_getElem hj, getElem!_pos _ j hj]
    rfl
  · rw [Nat.zero_add]
    unfold World.frozen?
    simp only [hh]
    have := hfz j (by have : ((l.map enc).flatten).length ≤ c * k := by rw [← hal]; simp
                      omega)
    simp only [Bool.and_eq_false_imp, decide_eq_true_eq, decide_eq_false_iff_not]
    omega
theorem Own.sorted(hk:0<k)(he:∀x,(enc x).length=k)(h:Own w e k (.slice (some ⟨g,0,none⟩) n c) ((l.map enc).flatten)){l':List α}(hl:l'.length=l.length)(m:Nat)(os:Array Obj):
  Own (sortWorldK enc k w g 0 m l'.toArray os) e k (.slice (some ⟨g,0,none⟩) n c) ((l'.map enc).flatten)∧aE (·=g) w (sortWorldK enc k w g 0 m l'.toArray os):=by
 rcases h with⟨h,_⟩|⟨g',n',c',rest,fz,h,hh,hxl,hnc,hcm,hal,hfz⟩
 ·cases h
 injection h with h2 h3 h4
 injection h2 with h2
 injection h2 with h2
 subst h2;subst h3;subst h4;have hlen:((l'.map enc).flatten).length=((l.map enc).flatten).length:=by rw [aO he,aO he,hl]
 have hlt:=(Array.getElem?_eq_some_iff.1 hh).1;have hg:(sortWorldK enc k w g 0 m l'.toArray os).heap[g]? =some (.cells ((l'.map enc).flatten++rest).toArray e fz):=by
  show((w.heap.modify g (onCells (putCells id 0 (flatK enc k l'.toArray))))++os)[g]? =_;rw [Array.getElem?_append_left (by simpa using hlt),Array.getElem?_modify,if_pos rfl,hh,Option.map_some];simp only [onCells];rw [tK _ _ _ (by rw [size_flatK,aO he];simp [hl]),lJ hk he]
 refine⟨.inr ⟨g,n,c,rest,fz,rfl,hg,by rw [hlen,hxl],hnc,hcm,by rw [List.length_append,hlen,←List.length_append,hal],hfz⟩,rfl,rfl,rfl,?_,fun b hb hn=>?_,Nat.le_add_right _ _⟩
 ·show _≤((w.heap.modify g _)++os).size;simp
 ·show((w.heap.modify g (onCells (putCells id 0 (flatK enc k l'.toArray))))++os)[b]? =_;rw [Array.getElem?_append_left (by simpa using hb),Array.getElem?_modify,if_neg (fun h=>hn h.symm)]
end
theorem Ext.grown{W w':World}(h:Ext W w'):∃q os',w'=grow (W.drewN q) os':=by
 refine⟨w'.drawn-W.drawn,w'.heap.extract W.heap.size w'.heap.size,?_⟩;obtain⟨h1,h2,h3,h4,h5,h6⟩:=h;have hh:w'.heap=W.heap++w'.heap.extract W.heap.size w'.heap.size:=by
  apply Array.ext_getElem?;intro i;by_cases hi:i<W.heap.size
  ·rw [Array.getElem?_append_left hi];exact h5 i hi (fun f=>f)
  ·rw [Array.getElem?_append_right ai,Array.getElem?_extract];split
   ·congr 1;omega
   ·rw [Array.getElem?_eq_none ai]
 cases W;cases w'
 simp only [World.drewN,grow]at*;subst h1;subst h2;subst h3;congr 1;omega
end Go.Fw
namespace Go.Pl
open Go.Fw Go.Proofs Go.Sort
abbrev Up(l:List aD):Prop:=l.Pairwise fun x y=>bX x y=true
theorem Dd:∀{a b:List aD},Up a→Up b→(∀x,x∈a↔x∈b)→a=b
 | [],[],_,_,_=>rfl
 | [],y::b,_,_,h=>by have:=(h y).2 aL;simp at this
 |x::a,[],_,_,h=>by have:=(h x).1 aL;simp at this
 |x::a,y::b,ha,hb,h=>by
  have ha':=List.pairwise_cons.1 ha;have hb':=List.pairwise_cons.1 hb;have e:x=y:=by
   have h1:=(h x).1 aL;have h2:=(h y).2 aL;rcases List.mem_cons.1 h1 with h1|h1
   ·exact h1
   rcases List.mem_cons.1 h2 with h2|h2
   ·exact h2.symm
   have h3:=hb'.1 x h1;have h4:=ha'.1 y h2;rw [sm h3]at h4;cases h4
  subst e;have:=Dd ha'.2 hb'.2 fun z=>by
   constructor
   ·intro hz;rcases List.mem_cons.1 ((h z).1 (by simp [hz]))with h1|h1
    ·subst h1;have:=ha'.1 z hz;rw [jr]at this;cases this
    ·exact h1
   ·intro hz;rcases List.mem_cons.1 ((h z).2 (by simp [hz]))with h1|h1
    ·subst h1;have:=hb'.1 z hz;rw [jr]at this;cases this
    ·exact h1
  rw [this]
def ins(d:aD):List aD→List aD
 | []=>[d]
 |x::r=>if bX x d=true then x::ins d r else if x=d then x::r else d::x::r
theorem vJ(d:aD):∀out,px out d=ins d out
 | []=>by simp [px,ml,ins]
 |x::r=>by
  have ih:=vJ d r;unfold px at ih⊢;rw [ml,ins];split
  ·simp only [List.getElem?_cons_succ,List.take_succ_cons,List.drop_succ_cons];rw [←ih];split<;>simp
  ·simp only [List.getElem?_cons_zero,Option.some.injEq,List.take_zero,List.drop_zero,List.nil_append]
theorem vz{d y:aD}:∀{out:List aD},y∈ins d out↔y=d∨y∈out
 | []=>by simp [ins]
 |x::r=>by
  rw [ins];split
  ·rw [List.mem_cons,vz,List.mem_cons];constructor
   ·rintro(h|h|h)
    ·exact .inr (.inl h)
    ·exact .inl h
    ·exact .inr (.inr h)
   ·rintro(h|h|h)
    ·exact .inr (.inl h)
    ·exact .inl h
    ·exact .inr (.inr h)
  ·split
   ·rename_i h;subst h;simp
   ·simp
theorem D7{d:aD}:∀{out:List aD},Up out→Up (ins d out)
 | [],_=>by simp [ins,Up]
 |x::r,h=>by
  have h':=List.pairwise_cons.1 h;rw [ins];split
  ·rename_i hl;refine List.pairwise_cons.2 ⟨fun y hy=>?_,D7 h'.2⟩;rcases vz.1 hy with rfl|hy
   ·exact hl
   ·exact h'.1 y hy
  ·rename_i hl;split
   ·exact h
   ·rename_i hne;have hdx:bX d x=true:=by
     cases hc:bX d x with
     |true=>rfl
     |false=>exact absurd (pI (by simpa using hl) hc) hne
    refine List.pairwise_cons.2 ⟨fun y hy=>?_,h⟩;rcases List.mem_cons.1 hy with rfl|hy
    ·exact hdx
    ·exact oL hdx (h'.1 y hy)
theorem yL(l:List aD):∀out,Up out→Up (l.foldl px out):=by
 induction l with
 |nil=>intro out h;exact h
 |cons d l ih=>intro out h;rw [List.foldl_cons];exact ih _ (by rw [vJ];exact D7 h)
theorem wv(l:List aD)(y:aD):∀out,y∈l.foldl px out↔y∈l∨y∈out:=by
 induction l with
 |nil=>intro out;simp
 |cons d l ih=>
  intro out;rw [List.foldl_cons,ih,vJ,vz,List.mem_cons];constructor
  ·rintro(h|h|h)
   ·exact .inl (.inr h)
   ·exact .inl (.inl h)
   ·exact .inr h
  ·rintro((h|h)|h)
   ·exact .inr (.inl h)
   ·exact .inl h
   ·exact .inr (.inr h)
theorem q7(l:List aD)(y:aD):y∈iy l↔y∈l:=(List.mergeSort_perm l _).mem_iff
theorem rY(l:List aD):(iy l).length=l.length:=(List.mergeSort_perm l _).length_eq
theorem rZ{l:List aD}(h:l.Nodup):Up (iy l):=by
 have h1:(iy l).Pairwise fun x y=>(!(ltOf H6) y x)=true:=List.pairwise_mergeSort (le:=fun x y=> !(ltOf H6) y x) (fun a b c h k=>by
   simp only [k8,Bool.not_eq_true']at h k⊢;have:=Av.ntrans c b a (by rw [k8];exact k) (by rw [k8];exact h);rwa [k8]at this) (fun a b=>by
   simp only [k8,Bool.or_eq_true,Bool.not_eq_true'];cases hc:bX b a with
   |false=>exact .inl rfl
   |true=>exact .inr (sm hc)) l
 have h2:(iy l).Nodup:=(List.mergeSort_perm l _).nodup_iff.2 h;refine(h1.and h2).imp fun{a b} hab=>?_;have h3:=hab.1;simp only [k8,Bool.not_eq_true']at h3;cases hc:bX a b with
 |true=>rfl
 |false=>exact absurd (pI hc h3) hab.2
def pU(mw:ct→Bool)(out:List aD)(o:ct):List aD:=if mw o=true∧¬o.at_.c∈out then out++[o.at_.c]else out
end Go.Pl
namespace Go.Proofs.YtmehkigmnpjcjaaGreatDoor
open Go.Shelf Go.Proofs.Tryz
def Cv:Go.Shelf.Ren:=⟨fun|6=>79|15=>100|14=>99|28=>126|29=>127|20=>118|21=>119|22=>120|23=>121|24=>122|25=>123|26=>124|27=>125|46=>134|47=>135|48=>136|49=>137|50=>138|57=>140|n=>n,fun|22=>25|24=>42|25=>169|3=>3|39=>159|0=>0|53=>192|55=>214|4=>4|46=>207|45=>206|50=>78|5=>5|9=>9|66=>225|70=>229|76=>233|77=>148|n=>n,fun|n=>n⟩
theorem Hp:Go.Proofs.SlLaysF0.n6 prog Cv:={
 mixed:=by kernel_rfl
 f6:=⟨Tryz.f79.name,by decide,func79.trans (congrArg some (by kernel_rfl))⟩
 f14:=⟨Tryz.f99.name,by decide,func99.trans (congrArg some (by kernel_rfl))⟩
 f15:=func100.trans (congrArg some (by kernel_rfl))
 f20:=⟨Tryz.f118.name,by decide,func118.trans (congrArg some (by kernel_rfl))⟩
 f21:=⟨Tryz.f119.name,by decide,func119.trans (congrArg some (by kernel_rfl))⟩
 f22:=⟨Tryz.f120.name,by decide,func120.trans (congrArg some (by kernel_rfl))⟩
 f23:=⟨Tryz.f121.name,by decide,func121.trans (congrArg some (by kernel_rfl))⟩
 f24:=⟨Tryz.f122.name,by decide,func122.trans (congrArg some (by kernel_rfl))⟩
 f25:=⟨Tryz.f123.name,by decide,func123.trans (congrArg some (by kernel_rfl))⟩
 f26:=⟨Tryz.f124.name,by decide,func124.trans (congrArg some (by kernel_rfl))⟩
 f27:=⟨Tryz.f125.name,by decide,func125.trans (congrArg some (by kernel_rfl))⟩
 f28:=func126.trans (congrArg some (by kernel_rfl))
 f29:=func127.trans (congrArg some (by kernel_rfl))
 f46:=⟨Tryz.f134.name,by decide,func134.trans (congrArg some (by kernel_rfl))⟩
 f47:=func135.trans (congrArg some (by kernel_rfl))
 f48:=func136.trans (congrArg some (by kernel_rfl))
 f49:=⟨Tryz.f137.name,by decide,func137.trans (congrArg some (by kernel_rfl))⟩
 f50:=⟨Tryz.f138.name,by decide,func138.trans (congrArg some (by kernel_rfl))⟩
 f57:=⟨Tryz.f140.name,by decide,func140.trans (congrArg some (by kernel_rfl))⟩
 t0:=underlying0
 a0:=Tryz.isAgg0
 z0:=Tryz.sizeOf0
 v0:=Tryz.zeroValue0
 t3:=underlying3
 a3:=Tryz.isAgg3
 z3:=Tryz.sizeOf3
 v3:=Tryz.zeroValue3
 t4:=underlying4
 a4:=Tryz.isAgg4
 z4:=Tryz.sizeOf4
 v4:=Tryz.zeroValue4
 t5:=underlying5
 a5:=Tryz.isAgg5
 z5:=Tryz.sizeOf5
 v5:=Tryz.zeroValue5
 t9:=underlying9
 a9:=Tryz.isAgg9
 z9:=Tryz.sizeOf9
 v9:=Tryz.zeroValue9
 t22:=underlying25
 a22:=Tryz.isAgg25
 z22:=Tryz.sizeOf25
 v22:=Tryz.zeroValue25
 t25:=underlying169
 a25:=Tryz.isAgg169
 z25:=Tryz.sizeOf169
 v25:=Tryz.zeroValue169
 t39:=underlying159
 a39:=Tryz.isAgg159
 z39:=Tryz.sizeOf159
 v39:=Tryz.zeroValue159
 t45:=underlying206
 a45:=Tryz.isAgg206
 z45:=Tryz.sizeOf206
 v45:=Tryz.zeroValue206
 t46:=underlying207
 a46:=Tryz.isAgg207
 z46:=Tryz.sizeOf207
 v46:=Tryz.zeroValue207
 t50:=underlying78
 a50:=Tryz.isAgg78
 z50:=Tryz.sizeOf78
 v50:=Tryz.zeroValue78
 t53:=underlying192
 a53:=Tryz.isAgg192
 z53:=Tryz.sizeOf192
 v53:=Tryz.zeroValue192
 t55:=underlying214
 a55:=Tryz.isAgg214
 z55:=Tryz.sizeOf214
 v55:=Tryz.zeroValue214
 t66:=underlying225
 a66:=Tryz.isAgg225
 z66:=Tryz.sizeOf225
 v66:=Tryz.zeroValue225
 t70:=underlying229
 a70:=Tryz.isAgg229
 z70:=Tryz.sizeOf229
 v70:=Tryz.zeroValue229
 t76:=underlying233
 a76:=Tryz.isAgg233
 z76:=Tryz.sizeOf233
 v76:=Tryz.zeroValue233
 t77:=underlying148
 a77:=Tryz.isAgg148
 z77:=Tryz.sizeOf148
 v77:=Tryz.zeroValue148}
end Go.Proofs.YtmehkigmnpjcjaaGreatDoor
namespace Go.Proofs.YtmehkigmnpjcjaaGreatDoor
open Go.RowKit Go.Fw Go.Pl Go.Sort Go.Proofs.Tryz
instance:Inhabited aD:=⟨aD.zero⟩
theorem EP{f:Nat}{fn:Func}{c:Code}(cf:aD→aD→Int)(hcf:∀a b,ltOf cf a b=bX a b)(hf:prog.funcs[f]? =some fn)(hnm:(fn.name== "runtime.NumGoroutine")=false)(hbd:fn.body=some c)
  (hcmp:∀(a b:aD) (w:World),Calls prog f #[cU a,cU b] w (cB fun v w'=>v= .int .i64 (cf a b)∧Ext w w'))
  (A:Option Addr) (m c:Nat) (l:List aD) (w:World) (hO:Own w pX 32 (.slice A m c) (cn l)) (hs:l.length<4611686018427387904):Calls prog 79 #[.slice A m c,.func (.func f) #[] #[]] w (cB fun v w'=>v= .tuple #[]∧Own w' pX 32 (.slice A m c) (cn (iy l))∧aE (fun k=>(Value.slice A m c).ownBlock=some k) w w'):=by
 have hlt:ltOf cf=ltOf H6:=by funext a b;rw [hcf,k8]
 obtain⟨hlen,hmc,hcm⟩:=hO.len ag aw;unfold maxLen at hcm;by_cases h0:l=[]
 ·subst h0;simp at hlen;subst hlen;refine(AnyF.slices_SortFunc_none Hp A c _ w).mono fun e w' h=>?_;obtain⟨rfl,rfl⟩:=h;exact⟨rfl,by unfold iy;rw [List.mergeSort_nil];exact hO,aE.refl⟩
 ·obtain⟨g,rfl,hg⟩:=hO.head (by
   intro h;have:=congrArg List.length h;rw [aO ag,List.length_nil]at this;cases l with
   |nil=>exact h0 rfl
   |cons _ _=>simp at this)
  obtain⟨hH,hblk⟩:=hO.holds aw ag;have hC:CmpLays prog f #[] aN 32 cf g 0 l.toArray.size w:=fun mm os dk _ x y=>by
   rw [Array.append_empty];refine(hcmp x y _).mono fun e w' h=>?_;cases e with
   |returned v=>obtain⟨rfl,hx⟩:=h;exact⟨rfl,hx.grown⟩
   |panicked ch=>exact h.elim
   |outgrown=>exact h.elim
  have hcon:=AnyQ.slices_SortFunc_total Hp 32 Tryz.isAgg42 Tryz.sizeOf42 aN ag (fun x v hv=>bV v hv) cf (hlt▸Av) f #[] g 0 c l.toArray w (enters_of hf hnm hbd) hC hH hblk (by simpa using hs) (fun x y h k=>by rw [hcf]at h k;exact pI h k);subst hlen;refine Calls.mono (R:=fun e w'=>e= .returned (.tuple #[])∧∃n os,w'=sortWorldK aN 32 w g 0 n (l.toArray.toList.mergeSort fun x y=> !(ltOf cf) y x).toArray os) hcon fun e w' h=>?_;obtain⟨rfl,n,os,rfl⟩:=h;obtain⟨h1,h2⟩:=hO.sorted (l':=iy l) aw ag (rY l) n os;have e:(l.toArray.toList.mergeSort fun x y=> !(ltOf cf) y x)=iy l:=by rw [hlt];rfl
  rw [e];refine⟨rfl,h1,h2.mono fun b _ hb=>by rw [hb];rfl⟩
end Go.Proofs.YtmehkigmnpjcjaaGreatDoor
