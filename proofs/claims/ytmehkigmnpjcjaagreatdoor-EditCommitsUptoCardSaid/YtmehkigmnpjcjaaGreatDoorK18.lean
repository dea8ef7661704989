/- Parts of a proof: what its last text leans on. No condition. -/
import Derived.Test.YtmehkigmnpjcjaaGreatDoorK12
import Derived.Test.YtmehkigmnpjcjaaGreatDoorK17
set_option linter.unusedSimpArgs false
set_option linter.unusedVariables false
namespace Go.Proofs.YtmehkigmnpjcjaaGreatDoor
open Go.Fw Go.Pl Go.Fu Go.Proofs.Tryz
def G2(c:bx):Nd:=⟨eH c,c.parents⟩
abbrev bH(P:List bx):List Nd:=P.map G2
abbrev dK(P:List bx):List aD:=P.map eH
theorem cR(P:List bx):bz (bH P)=dK P:=by simp [bz,G2,Function.comp_def]
theorem vT{P:List bx}{i:Nat}{c:bx}(h:P[i]? =some c):(bH P)[i]? =some (G2 c):=by simp [h]
theorem Gg{P:List bx}{i:Nat}{n:Nd}(h:(bH P)[i]? =some n):∃c,P[i]? =some c∧G2 c=n:=by simpa using h
theorem Ff(P:List bx)(i:Nat):(bH P).take i=bH (P.take i):=List.map_take.symm
def nK(P:List bx)(d:aD):List ct:=((P[jh (bH P) d]?).map bx.ops).getD []
def lC(P:List bx)(ids:List aD)(r:aF):Bool:=
 decide (r.c∈dK P)&&cK (fJ (bH P) ids) (bH P) r.c&&decide (r.n≤((nK P r.c).length:Int))&&decide (ep (nK P r.c) (r.n-1).toNat=1)
def j3(P:List bx)(c:bx):Int:=if eY c≠0 then eY c else if eH c∈dK P then 6 else if∃p∈c.parents,p∉dK P then 5 else if∃x∈c.ops,bj x.at_=2∧lC P c.parents x.at_=false then 5 else 0
def js:List bx→List bx→Nat×Int
 | [],_=>(0,0)
 |c::r,P=>if j3 P c=0 then js r (P++[c])else(P.length,j3 P c)
def jJ(l:List bx):Nat×Int:=if 200<l.length then(0,4)else js l []
structure Ak(P:List bx)(c:bx):Prop where
 may:eY c=0
 new:eH c∉dK P
 par:∀p∈c.parents,p∈dK P
 JF:∀x∈c.ops,bj x.at_=2→lC P c.parents x.at_=true
theorem rJ{P:List bx}{c:bx}:j3 P c=0↔Ak P c:=by
 unfold j3;constructor
 ·intro h;split at h
  ·rename_i h1;exact absurd h h1
  split at h
  ·omega
  split at h
  ·omega
  split at h
  ·omega
  rename_i h1 h2 h3 h4;refine⟨Decidable.not_not.1 h1,h2,fun p hp=>?_,fun x hx hk=>?_⟩
  ·by_cases hm:p∈dK P
   ·exact hm
   ·exact absurd ⟨p,hp,hm⟩ h3
  ·cases hf:lC P c.parents x.at_ with
   |true=>rfl
   |false=>exact absurd ⟨x,hx,hk,hf⟩ h4
 ·rintro⟨h1,h2,h3,h4⟩;rw [if_neg ai,if_neg h2,if_neg (by rintro⟨p,hp,hn⟩;exact hn (h3 p hp)),if_neg (by rintro⟨x,hx,hk,hf⟩;rw [h4 x hx hk]at hf;cases hf)]
def lQ(P:List bx):Prop:=∀(i:Nat) (c:bx),P[i]? =some c→Ak (P.take i) c
theorem lQ.nil:lQ []:=fun i c h=>by simp at h
theorem lQ.snoc{P:List bx}{c:bx}(h:lQ P)(hc:Ak P c):lQ (P++[c]):=fun i x hx=>by
 by_cases hi:i<P.length
 ·rw [List.getElem?_append_left hi]at hx;rw [List.take_append_of_le_length ai];exact h i x hx
 ·have hi2:i=P.length:=by
   have:=(List.getElem?_eq_some_iff.1 hx).1;simp at this;omega
  subst hi2;rw [List.getElem?_append_right (Nat.le_refl _)]at hx;simp at hx;subst hx;rw [List.take_append_of_le_length (Nat.le_refl _),List.take_length];exact hc
theorem lQ.take{P:List bx}(h:lQ P)(k:Nat):lQ (P.take k):=fun i c hc=>by
 rw [List.getElem?_take]at hc;split at hc
 ·rename_i hi;rw [List.take_take,Nat.min_eq_left ai];exact h i c hc
 ·cases hc
theorem yj:∀{r P:List bx},lQ P→(((js r P).2=0)↔lQ (P++r))
 | [],P,h=>by simp [js,h]
 |c::r,P,h=>by
  rw [js];split
  ·rename_i h0;rw [yj (h.snoc (rJ.1 h0)),List.append_assoc];rfl
  ·rename_i h0;refine⟨fun hh=>absurd hh h0,fun hh=>?_⟩;have h1:=hh P.length c (by rw [List.getElem?_append_right (Nat.le_refl _)];simp);rw [List.take_append_of_le_length (Nat.le_refl _),List.take_length]at h1;exact absurd (rJ.2 h1) h0
theorem lP{l:List bx}:(jJ l).2=0↔l.length≤200∧lQ l:=by
 unfold jJ;split
 ·exact⟨fun h=>by simp at h,fun h=>by omega⟩
 ·rw [yj lQ.nil];simp;omega
theorem sM{l:List bx}{x:Nat}{c:bx}(hc:l[x]? =some c)(h:j3 (l.take x) c=0):js (l.drop x) (l.take x)=js (l.drop (x+1)) (l.take (x+1)):=by
 have h1:l.drop x=c::l.drop (x+1):=by
  obtain⟨hl,rfl⟩:=List.getElem?_eq_some_iff.1 hc;exact List.drop_eq_getElem_cons hl
 rw [h1,js,if_pos h,List.take_add_one,hc];rfl
theorem th{l:List bx}{x:Nat}{c:bx}(hc:l[x]? =some c)(h:j3 (l.take x) c≠0):js (l.drop x) (l.take x)=(x,j3 (l.take x) c):=by
 obtain⟨hl,rfl⟩:=List.getElem?_eq_some_iff.1 hc;rw [List.drop_eq_getElem_cons hl,js,if_neg h,List.length_take,Nat.min_eq_left ai]
theorem H0:∀{l:List aD},je l=true→mP l=true:=fun{l} h=>pf fun i a b ha hb=>(iU l).1 h i a b ha hb
theorem lQ.nodes{P:List bx}(h:lQ P)(hl:P.length≤200):(bL (bH P)).2=0:=uX (by rw [List.length_map];omega) fun j n hn=>by
 obtain⟨c,hc,rfl⟩:=Gg hn;have hh:=h j c hc;have hm:=kM hh.may;rw [Ff,cR];exact xS hm.parents (H0 hm.rising) hh.new hh.par
theorem lQ.nodup{P:List bx}(h:lQ P):(dK P).Nodup:=by
 rw [List.Nodup,List.pairwise_iff_getElem];intro i j hi hj hij e;rw [List.length_map]at hi hj;have h1:=(h j _ (List.getElem?_eq_getElem hj)).new;rw [List.getElem_map,List.getElem_map]at e;exact h1 (List.mem_map.2 ⟨P[i],List.mem_of_getElem? (i:=i) (by rw [List.getElem?_take,if_pos hij];exact List.getElem?_eq_getElem hi),e⟩)
theorem Gk{l m:List Nd}(h:∀n∈l,n∈m){a d:aD}(k:Ab l a d):Ab m a d:=by
 induction k with
 |refl d=>exact .refl d
 |step hn hp _ ih=>exact .step (h _ hn) hp ih
theorem zp{l m:List Nd}(h:∀n∈l,n∈m){ids:List aD}{d:aD}(k:cO l ids d):cO m ids d:=let⟨a,ha,k⟩:=k;⟨a,ha,Gk h k⟩
section
variable {l:List bx} (hk:lQ l) (hl:l.length≤200)
include hk hl
theorem xb{a:bx}(ha:a∈l):nK l (eH a)=a.ops:=by
 obtain⟨j,hj⟩:=List.mem_iff_getElem?.1 ha;have h1:=fM (hk.nodes hl) (vT hj);simp only [G2]at h1;rw [nK,h1,hj];rfl
omit hl in
theorem FW(hl:l.length≤200){ids:List aD}(hin:∀d∈ids,d∈dK l){r:aF}:lC l ids r=true↔∃a∈l,eH a=r.c∧cO (bH l) ids r.c∧r.n≤(a.ops.length:Int)∧ep a.ops (r.n-1).toNat=1:=by
 have hn:=hk.nodes hl;have hin':∀d∈ids,d∈bz (bH l):=fun d hd=>by rw [cR];exact hin d hd
 simp only [lC,Bool.and_eq_true,decide_eq_true_eq];constructor
 ·rintro⟨⟨⟨h1,h2⟩,h3⟩,h4⟩;obtain⟨a,ha,e⟩:=List.mem_map.1 h1;rw [←e,xb hk hl ha]at h3 h4;exact⟨a,ha,e,(fE hn hin' (by rw [cR];exact h1)).1 h2,h3,h4⟩
 ·rintro⟨a,ha,e,hu,h3,h4⟩;have h1:r.c∈dK l:=e▸List.mem_map.2 ⟨a,ha,rfl⟩;rw [←e,xb hk hl ha];rw [e];exact⟨⟨⟨h1,(fE hn hin' (by rw [cR];exact h1)).2 hu⟩,h3⟩,h4⟩
end
abbrev pr(c:bx):aD×List ct:=(eH c,c.ops)
theorem FO(ops:List ct):fF ops≤ops.length:=List.countP_le_length
theorem Ic{L:kR}{m:Nat}(h:∀p∈L,fF p.2≤m):(L.map fun p=>fF p.2).sum≤L.length*m:=by
 induction L with
 |nil=>simp
 |cons p r ih=>
  have h1:=h p aL;have h2:=ih fun q hq=>h q (by simp [hq]);simp only [List.map_cons,List.sum_cons,List.length_cons,Nat.succ_mul];omega
theorem Dz{r:aF}(h:bj r=2){ops:List ct}(hl:r.n≤(ops.length:Int))(hk:ep ops (r.n-1).toNat=1){L:kR}{d:aD}(hd:d=r.c)(hm:(d,ops)∈L):∃b p s,fj L r b p s:=by
 obtain⟨ho,h1,_,_⟩:=dU h;obtain⟨x,hx⟩:∃x,ops[(r.n-1).toNat]? =some x:=⟨_,List.getElem?_eq_getElem ai⟩;refine⟨x.byte,res d x.at_,x.left,d,ops,(r.n-1).toNat,x,hm,hx,?_,?_,rfl,rfl,rfl⟩
 ·rw [ep,hx]at hk;exact hk
 ·obtain⟨o,c,n⟩:=r;simp only at ho h1 hd;subst ho hd;congr 1;simp only;omega
theorem FJ{l:List bx}(hk:lQ l)(hl:l.length≤200){L:kR}{T:Tr}(ht:fI L T)(hsub:∀p∈L,∃c∈l,p=pr c){i:Nat}{c:bx}(hc:l[i]? =some c)(hnew:eH c∉L.map (·.1))
  (hanc:∀a∈l,cO (bH l) c.parents (eH a)→pr a∈L):di T (eH c) c.ops=0:=by
 have hh:=hk i c hc;have hm:=kM hh.may;have hcm:=List.mem_of_getElem? hc;have h2000:∀a∈l,fF a.ops≤2000:=fun a ha=>by
  obtain⟨j,hj⟩:=List.mem_iff_getElem?.1 ha;have:=(kM (hk j a hj).may).ops;have:=FO a.ops;omega
 have hlen:L.length+1≤l.length:=by
  have h1:(L.map (·.1)++[eH c]).Nodup:=List.nodup_append.2 ⟨ht.nodup,by simp,fun a ha b hb e=>by simp at hb;subst hb;subst e;exact hnew ha⟩;have h2:=pQ (b:=dK l) h1 fun d hd=>by
   rcases List.mem_append.1 hd with hd|hd
   ·obtain⟨p,hp,rfl⟩:=List.mem_map.1 hd;obtain⟨a,ha,rfl⟩:=hsub p hp;exact List.mem_map.2 ⟨a,ha,rfl⟩
   ·simp at hd;subst hd;exact List.mem_map.2 ⟨c,hcm,rfl⟩
  simpa using h2
 have hsum:(L.map fun p=>fF p.2).sum≤L.length*2000:=Ic fun p hp=>by
  obtain⟨a,ha,rfl⟩:=hsub p hp;exact h2000 a ha
 have hle:=ht.length;have hpos:=ht.eX.pos;have hci:=h2000 c hcm;have hN:cY T.e c.ops c.ops.length=0:=by
  by_cases h0:cY T.e c.ops c.ops.length=0
  ·exact h0
  exfalso;obtain⟨j,x,hj,hx,hw⟩:=ma h0;apply hw;rw [dB,if_neg (by rw [hm.right j hj];decide),if_neg];rintro⟨hr,hnone⟩;have hf:=hh.JF x (List.mem_of_getElem? hx) hr;have hpar:∀d∈c.parents,d∈dK (l.take i):=hh.par;obtain⟨a,ha,e,hu,h3,h4⟩:=(FW (hk.take i) (by rw [List.length_take];omega) hpar).1 hf;have hal:=List.mem_of_mem_take ha;have hu':cO (bH l) c.parents (eH a):=by
   rw [e];exact zp (l:=bH (l.take i)) (fun n hn=>by
    obtain⟨z,hz,rfl⟩:=List.mem_map.1 hn;exact List.mem_map.2 ⟨z,List.mem_of_mem_take hz,rfl⟩) hu
  have hpa:=hanc a hal hu';obtain⟨b,p,s,hi⟩:=Dz hr h3 h4 e hpa;obtain⟨y,hy,hyn⟩:=(ht.built.names x.at_).2 (.inr ⟨b,p,s,hi⟩);exact iz.1 hnone y hy hyn
 rw [di,if_neg (by rw [ht.ads];exact hnew),if_neg (by have:=hm.ops;omega),hN]
section
open Classical Go.Proofs.Tryz
noncomputable def kB(S:aD→Prop)(l:List bx):kR:=(l.filter fun c=>decide (S (eH c))).map pr
theorem vY{S:aD→Prop}{l:List bx}{p:aD×List ct}:p∈kB S l↔∃c∈l,S (eH c)∧p=pr c:=by
 simp only [kB,List.mem_map,List.mem_filter,decide_eq_true_eq];constructor
 ·rintro⟨c,⟨h1,h2⟩,rfl⟩;exact⟨c,h1,h2,rfl⟩
 ·rintro⟨c,h1,h2,rfl⟩;exact⟨c,⟨h1,h2⟩,rfl⟩
theorem GV{S:aD→Prop}{l:List bx}{k:Nat}{c:bx}(hc:l[k]? =some c)(h:S (eH c)):kB S (l.take (k+1))=kB S (l.take k)++[pr c]:=by
 rw [kB,kB,List.take_add_one,hc];simp [h]
theorem HS{S:aD→Prop}{l:List bx}{k:Nat}{c:bx}(hc:l[k]? =some c)(h:¬S (eH c)):kB S (l.take (k+1))=kB S (l.take k):=by
 rw [kB,kB,List.take_add_one,hc];simp [h]
end
def qd(l:List bx)(S:aD→Prop):Prop:=∀c∈l,S (eH c)→∀p∈c.parents,S p
theorem qd.ab{l:List bx}{S:aD→Prop}(h:qd l S){a d:aD}(k:Ab (bH l) a d):S a→S d:=by
 induction k with
 |refl d=>exact id
 |step hn hp _ ih=>
  obtain⟨c,hc,rfl⟩:=List.mem_map.1 hn;exact fun ha=>ih (h c hc ha _ hp)
theorem iu(l:List bx)(ids:List aD):qd l (cO (bH l) ids):=fun c hc ⟨a,ha,h⟩ p hp=>⟨a,ha,h.trans (.step (List.mem_map.2 ⟨c,hc,rfl⟩) hp (.refl _))⟩
theorem BG{l:List bx}(hk:lQ l)(hl:l.length≤200){i:Nat}{c a:bx}(hc:l[i]? =some c)(ha:a∈l)(h:cO (bH l) c.parents (eH a)):a∈l.take i:=by
 obtain⟨p,hp,hpa⟩:=h;have hn:=hk.nodes hl;have h1:=jv hn (vT hc) hp;have h2:=hpa.ix hn h1.1;obtain⟨j,hj⟩:=List.mem_iff_getElem?.1 ha;have h3:=fM hn (vT hj);simp only [G2]at h3;exact List.mem_of_getElem? (i:=j) (by rw [List.getElem?_take,if_pos ai];exact hj)
theorem vK{l:List bx}(hk:lQ l)(hl:l.length≤200){S:aD→Prop}(hS:qd l S){k:Nat}{c:bx}(hc:l[k]? =some c)(h:S (eH c)){T:Tr}(ht:fI (kB S (l.take k)) T):di T (eH c) c.ops=0:=by
 refine FJ hk hl ht (fun p hp=>?_) hc (fun hm=>?_) fun a ha hu=>?_
 ·obtain⟨a,ha,_,rfl⟩:=vY.1 hp;exact⟨a,List.mem_of_mem_take ha,rfl⟩
 ·obtain⟨p,hp,e⟩:=List.mem_map.1 hm;obtain⟨a,ha,_,rfl⟩:=vY.1 hp;exact(hk k c hc).new (List.mem_map.2 ⟨a,ha,e⟩)
 ·refine vY.2 ⟨a,BG hk hl hc ha hu,?_,rfl⟩;obtain⟨p,hp,hpa⟩:=hu;exact hS.ab hpa (hS c (List.mem_of_getElem? hc) h p hp)
theorem Fx{l:List bx}(hk:lQ l)(hl:l.length≤200){S:aD→Prop}(hS:qd l S){k:Nat}{c:bx}(hc:l[k]? =some c)(h:S (eH c)){T:Tr}(ht:fI (kB S (l.take k)) T):fI (kB S (l.take (k+1))) (iJ T (eH c) c.ops):=by
 rw [GV hc h];exact ht.add (vK hk hl hS hc h ht)
end Go.Proofs.YtmehkigmnpjcjaaGreatDoor
namespace Go.Fw
open Go.RowKit
section
variable {w:World} {a:Addr} {v0 v1 v2:Value}
theorem Mem.eG(h:Mem w a [v0,v1]):w.cell? (a.add 0)=some v0:=h.cell 0 rfl
theorem Mem.fg(h:Mem w a [v0,v1]):w.cell? (a.add 1)=some v1:=h.cell 1 rfl
theorem Mem.rk(h:Mem w a [v0,v1,v2]):Mem w (a.add 0) [v0,v1]:=h.sub 0 fun j v hj=>by
 rw [Nat.zero_add];match j,hj with
 |0,hj=>exact hj
 |1,hj=>exact hj
theorem Mem.fv(h:Mem w a [v0,v1,v2]):w.cell? (a.add 2)=some v2:=h.cell 2 rfl
end
theorem CW.tail{P:Program}{n:NN}{Φ:Exit→Fr→World→Prop}{fr:Fr}{w:World}{x:Code}{X:Type}(g:X→Fr)(W:X→World→Prop)
  (h1:CW P x n (mL (fun f w'=>∃u,Fr.le (g u) f∧W u w') Φ) fr w) (h2:∀u w' f,W u w'→Fr.le (g u) f→Φ .normal f w'):CW P x n Φ fr w:=
 CW.mono h1 fun e f w' hp=>by
  cases e with
  |normal=>obtain⟨u,hl,hw⟩:=hp;exact h2 u w' f hw hl
  |_=>exact hp
theorem GU{a b:Value}(ha:a.oneCell'=true)(hb:b.oneCell'=true):∀u∈[a,b],u.oneCell'=true:=by
 intro u hu;simp at hu;rcases hu with rfl|rfl<;>assumption
theorem Gm{a b c:Value}(ha:a.oneCell'=true)(hb:b.oneCell'=true)(hc:c.oneCell'=true):∀u∈[a,b,c],u.oneCell'=true:=by
 intro u hu;simp at hu;rcases hu with rfl|rfl|rfl<;>assumption
end Go.Fw
namespace Go.Proofs.YtmehkigmnpjcjaaGreatDoor
open Go.RowKit Go.Fw Go.Pl Go.Proofs.Tryz
abbrev pV:TypeId:=73
abbrev qY:TypeId:=81
theorem wS:(prog.info? pV).map (·.size)=some 2:=by kernel_rfl
theorem xV:(prog.info? qY).map (·.size)=some 3:=by kernel_rfl
theorem ef(a b:Value):(prog.info? pV).map (·.size)=some [a,b].length:=wS
theorem kO(a b c:Value):(prog.info? qY).map (·.size)=some [a,b,c].length:=xV
theorem Ey:(prog.info? 38).map (·.size)=some 1:=by kernel_rfl
theorem EX:(prog.info? 71).map (·.size)=some 1:=by kernel_rfl
theorem C6:(prog.info? 79).map (·.size)=some 1:=by kernel_rfl
theorem cS:bh prog pV 0 0:=⟨_,_,1,underlying73,rfl,Ey,by decide,rfl⟩
theorem dI:bh prog pV 1 1:=⟨_,_,1,underlying73,rfl,EX,by decide,rfl⟩
theorem oH:bh prog qY 0 0:=⟨_,_,2,underlying81,rfl,wS,by decide,rfl⟩
theorem ee:bh prog qY 1 2:=⟨_,_,1,underlying81,rfl,C6,by decide,rfl⟩
theorem uW:∃i:TypeInfo,prog.info? pV=some i∧i.zero=some (.agg [.slice none 0 0,.map none].toArray)∧i.size=2:=by
 have h:(prog.info? pV).map (fun i=>(i.zero,i.size))=some (some (.agg [.slice none 0 0,.map none].toArray),2):=by kernel_rfl
 cases hi:prog.info? pV with
 |none=>simp [hi]at h
 |some i=>simp [hi]at h;exact⟨i,rfl,h.1,h.2⟩
theorem po:∃i:TypeInfo,prog.info? qY=some i∧i.zero=some (.agg [.slice none 0 0,.map none,.slice none 0 0].toArray)∧i.size=3:=by
 have h:(prog.info? qY).map (fun i=>(i.zero,i.size))=some (some (.agg [.slice none 0 0,.map none,.slice none 0 0].toArray),3):=by kernel_rfl
 cases hi:prog.info? qY with
 |none=>simp [hi]at h
 |some i=>simp [hi]at h;exact⟨i,rfl,h.1,h.2⟩
theorem kn{n:NN}{Φ:Exit→Fr→World→Prop}{fr:Fr}{w:World}{ops:Array Oper}{rest:List Oper}{d:Nat}{x:Operand}{ty ty':TypeId}{pos pos':String}{aft aft':Array Edge}{v0 v1:Value}
  (hx:ev fr x=some (.agg [v0,v1].toArray)) (hxd:x≠.tmp d) (hd:d<n.1)
  (h:∀g w',Ext w w'→w.heap.size≤g→aK w' g pV [v0,v1]→WL prog ops n Φ rest ((d,.pointer (some ⟨g,0,none⟩))::fr) w') (h0:v0.oneCell'=true:=by rfl) (h1:v1.oneCell'=true:=by rfl):
  WL prog ops n Φ (⟨some d,.alloc pV,ty,pos,aft,none⟩::⟨none,.store pV (.tmp d) x,ty',pos',aft',none⟩::rest) fr w:=by
 obtain⟨i,hi,hz,hs⟩:=uW;exact WL.dH (cs:=[v0,v1]) (zs:=[.slice none 0 0,.map none]) hi hz rfl (by rw [hs];rfl) rfl hx hxd rfl (GU h0 h1) hd h
theorem kH{n:NN}{Φ:Exit→Fr→World→Prop}{fr:Fr}{w:World}{ops:Array Oper}{rest:List Oper}{d:Nat}{x:Operand}{ty ty':TypeId}{pos pos':String}{aft aft':Array Edge}{v0 v1 v2:Value}
  (hx:ev fr x=some (.agg [v0,v1,v2].toArray)) (hxd:x≠.tmp d) (hd:d<n.1)
  (h:∀g w',Ext w w'→w.heap.size≤g→aK w' g qY [v0,v1,v2]→WL prog ops n Φ rest ((d,.pointer (some ⟨g,0,none⟩))::fr) w') (h0:v0.oneCell'=true:=by rfl) (h1:v1.oneCell'=true:=by rfl) (h2:v2.oneCell'=true:=by rfl):
  WL prog ops n Φ (⟨some d,.alloc qY,ty,pos,aft,none⟩::⟨none,.store qY (.tmp d) x,ty',pos',aft',none⟩::rest) fr w:=by
 obtain⟨i,hi,hz,hs⟩:=po;exact WL.dH (cs:=[v0,v1,v2]) (zs:=[.slice none 0 0,.map none,.slice none 0 0]) hi hz rfl (by rw [hs];rfl) rfl hx hxd rfl (Gm h0 h1 h2) hd h
theorem nO(A B:Option Addr)(r m c n d:Nat)(w:World):(Instr.build qY [(0,.agg [.slice A m c,.map (some r)].toArray),(1,.slice B n d)].toArray).run prog w= .ok (.agg [.slice A m c,.map (some r),.slice B n d].toArray) w:=run_build w _ _ _ aG
theorem y7(r:Nat)(w:World):(Instr.build pV [(1,.map (some r))].toArray).run prog w= .ok (.agg [.slice none 0 0,.map (some r)].toArray) w:=run_build w _ _ _ aG
structure tS(w:World)(A:Option Addr)(c r cl:Nat)(ys:List gj)(P:List bx):Prop where
 yk:oR w (.slice A ys.length c) ys
 map:b7 w r zI (eu (dK P)) cl
 is:aQ ys=bH P
theorem tS.ext{w w':World}{A:Option Addr}{c r cl:Nat}{ys:List gj}{P:List bx}(h:tS w A c r cl ys P)(hc:Ext w w'):tS w' A c r cl ys P:=⟨h.yk.ext hc,h.map.ext hc,h.is⟩
theorem tS.len{w:World}{A:Option Addr}{c r cl:Nat}{ys:List gj}{P:List bx}(h:tS w A c r cl ys P):ys.length=P.length:=by
 have:=congrArg List.length h.is;simpa using this
abbrev q9(A:Option Addr)(n c r:Nat):List Value:=[.slice A n c,.map (some r)]
abbrev xX(A:Option Addr)(n c r b:Nat):List Value:=[.slice A n c,.map (some r),.slice (some ⟨b,0,none⟩) n n]
end Go.Proofs.YtmehkigmnpjcjaaGreatDoor
namespace Go.Fw
open Go.RowKit
theorem St.E4{P:Program}{n:NN}{fr:Fr}{w:World}{ty:TypeId}{t:TypeId}{i:TypeInfo}{z:Value}{cs:List Value}(hi:P.info? t=some i)(hz:i.zero=some z)(hv:z.cells=cs.toArray):St P n fr (.alloc t) ty w (fun v w'=>∃g,v= .pointer (some ⟨g,0,none⟩)∧w.heap.size≤g∧aK w' g t cs∧Ext w w'):=fun a o' ho hty ha=>by
 refine⟨_,w.alloc (.cells cs.toArray t),?_,w.heap.size,rfl,Nat.le_refl _,aK.new w t cs,aE.alloc _⟩;simp [execOp,ho,Instr.alloc,zeroValue,typeInfo,hi,hz,newVar,newRow,hv]
end Go.Fw
namespace Go.Proofs.YtmehkigmnpjcjaaGreatDoor
open Go.RowKit Go.Fw Go.Pl Go.Sort Go.Proofs.Tryz
theorem uF{l:List Nd}{i:Nat}:∀{ds:List aD} {S:List Bool},(∀d∈ds,jh l d≠i)→(bP l S ds)[i]? =S[i]?
 | [],_,_=>rfl
 |d::ds,S,h=>by
  rw [show bP l S (d::ds)=bP l (S.set (jh l d) true) ds from rfl,uF fun q hq=>h q (by simp [hq]),List.getElem?_set_ne (h d aL)]
set_option maxRecDepth 100000 in
set_option maxHeartbeats 4000000 in
theorem pz(A:Option Addr)(c r cl:Nat)(v0:Value)(ys:List gj)(ids:List aD)(w:World)(hN:oR w (.slice A ys.length c) ys)(hok:(bL (aQ ys)).2=0)(hM:b7 w r zI (eu (bz (aQ ys))) cl)(hd:Sl w aN 32 v0 ids)(hin:∀d∈ids,d∈bz (aQ ys)):Calls prog 25 #[.agg (q9 A ys.length c r).toArray,v0] w (cB fun v w'=>∃b,v= .agg (xX A ys.length c r b).toArray∧w.heap.size≤b∧aK w' b oC (b8 (fJ (aQ ys) ids))∧Ext w w'):=by
 have hd0:=hd;obtain⟨A1,m1,c1,rfl,hdm,hdc,hdx,hdg⟩:=hd;unfold maxLen at hdx;have hnl:(aQ ys).length=ys.length:=by simp
 obtain⟨bi,hbi,hbz,hbs,hbb⟩:=iS;obtain⟨vi_,hvi,hvz,hvs⟩:=po;have hln:=lT hok;rw [hnl]at hln;have hrl:=hM.lt;refine gp 64 4 3 [(0,.agg (q9 A ys.length c r).toArray),(1,.slice A1 m1 c1)] func25 rfl rfl rfl underlying81 rfl aG aL cz ?_;have hE:Ext w w:=aE.refl;refine CW.sr fun K1 hK1=>WL.box rfl rfl aw fun g2 w1 hx1 hg2 hB2=>?_;have hlt2:=hB2.lt;have hz1:=hx1.size;have hE:=hE.ae hx1;refine WL.alloc (hvi) (hvz) rfl aw fun g4 w2 hx2 hg4 hB4=>?_;have hlt4:=hB4.lt;have hz2:=hx2.size;have hE:=hE.ae hx2;have hB2:=hB2.ext hx2;refine WL.nil (hK1 _ _ ?_);clear hK1;refine CW.bK (X:=Nat×Nat) (fun u=>[(1,.slice A1 m1 c1),(2,.pointer (some ⟨g2,0,none⟩)),(4,.pointer (some ⟨g4,0,none⟩)),(5,.pointer (some ⟨u.1,0,none⟩))]) (fun u w0=>aK w0 u.1 qY (xX A ys.length c r u.2)∧aK w0 u.2 oC (b8 (List.replicate ys.length false))∧Ext w2 w0∧w2.heap.size≤u.1∧w2.heap.size≤u.2∧u.1≠u.2) ?_ ?_
 ·refine CW.held (fun wq=>Ext w2 wq) aG 8 rfl fun w3 hS=>RH.tk 0 hS rfl (fun wq hq=>Y.load underlying73 rfl (hB2.ext hq).mem (ef _ _) rfl)<|RH.tk 1 hS rfl (fun wq hq=>Y.fieldAddr cS rfl)<|RH.tk 2 hS rfl (fun wq hq=>Y.ah underlying38 rfl (hB2.ext hq).mem.eG rfl)<|RH.tk 3 hS rfl (fun wq hq=>Y.aq underlying38 rfl)<|RH.two 4 6 aG ?_ ?_
  ·refine RS.st rfl (St.tw underlying79 hbi hbz hbs hbb rfl rfl ai) aw fun v15 w4 hR4=>?_;have hz0_:=hS.size;obtain⟨ib,rfl,hib,hIn,hx_a⟩:=hR4;have hz_a:=hx_a.size;have hlti:=hIn.lt;have hS:=hS.ae hx_a;refine⟨hS,?_⟩;refine RH.tk 5 hS rfl (fun wq hq=>Y.build rfl ((nO A _ r _ c _ _ _)))<|RH.one 6 aG ?_;refine RS.st rfl (St.E4 hvi hvz rfl) aw fun v5 w5 hR5=>?_;obtain⟨g5,rfl,hg5,hB5,hx_b⟩:=hR5;have hz_b:=hx_b.size;have hS:=hS.ae hx_b;have hIn:=hIn.ext hx_b;have hltg:=hB5.lt;refine⟨hS,?_⟩;refine RH.one 7 aG ?_;refine RS.store rfl (g:=g5) (pre:=[]) (old:=[.slice none 0 0,.map none,.slice none 0 0]) (post:=[]) (new:=xX A ys.length c r ib) rfl rfl rfl rfl aG (by simpa using hB5) rfl (Gm rfl rfl rfl) (fun w6 hc6 hB6_=>?_);have hS:=hS.step hc6 (fun k h=>by omega);have hIn:=hIn.aA hc6 cq;have hB5:aK w6 g5 qY (xX A ys.length c r ib):=by simpa using hB6_
   refine⟨hS,?_⟩;refine RH.done aG ?_;have hx7:=hS;have hz7:=hx7.size;have hE:=hE.ae hx7;have hB2:=hB2.ext hx7;have hB4:=hB4.ext hx7;exact⟨(g5,ib),Fr.ok,hB5,hIn,hS,ai,ai,ai⟩
  ·refine RS.st rfl (St.E4 hvi hvz rfl) aw fun v5 w8 hR8=>?_;have hz0_:=hS.size;obtain⟨g5,rfl,hg5,hB5,hx_a⟩:=hR8;have hz_a:=hx_a.size;have hltg:=hB5.lt;have hS:=hS.ae hx_a;refine⟨hS,?_⟩;refine RH.one 4 aG ?_;refine RS.st rfl (St.tw underlying79 hbi hbz hbs hbb rfl rfl ai) aw fun v15 w9 hR9=>?_;obtain⟨ib,rfl,hib,hIn,hx_b⟩:=hR9;have hz_b:=hx_b.size;have hS:=hS.ae hx_b;have hB5:=hB5.ext hx_b;have hlti:=hIn.lt;refine⟨hS,?_⟩;refine RH.tk 5 hS rfl (fun wq hq=>Y.build rfl ((nO A _ r _ c _ _ _)))<|RH.one 7 aG ?_;refine RS.store rfl (g:=g5) (pre:=[]) (old:=[.slice none 0 0,.map none,.slice none 0 0]) (post:=[]) (new:=xX A ys.length c r ib) rfl rfl rfl rfl aG (by simpa using hB5) rfl (Gm rfl rfl rfl) (fun w10 hc10 hB10_=>?_);have hS:=hS.step hc10 (fun k h=>by omega);have hIn:=hIn.aA hc10 cq;have hB5:aK w10 g5 qY (xX A ys.length c r ib):=by simpa using hB10_
   refine⟨hS,?_⟩;refine RH.done aG ?_;have hx11:=hS;have hz11:=hx11.size;have hE:=hE.ae hx11;have hB2:=hB2.ext hx11;have hB4:=hB4.ext hx11;exact⟨(g5,ib),Fr.ok,hB5,hIn,hS,ai,ai,ai⟩
 rintro u w12 hj12;obtain⟨g5,ib⟩:=u;dsimp only at hj12⊢;obtain⟨hB5,hIn,hx12,h5,hib,hne⟩:=hj12;have hz12:=hx12.size;have hE:=hE.ae hx12;have hB2:=hB2.ext hx12;have hB4:=hB4.ext hx12;have hlt5:=hB5.lt;have hlti:=hIn.lt;refine CW.seq fun K2 hK2=>CW.sr fun K3 hK3=>WL.m rfl<|WL.v (Y.aq underlying25 rfl)<|WL.m rfl<|WL.nil (hK3 _ _ ?_);clear hK3;refine CW.block ?_;refine CW.loop (X:=Nat) (fun x=>[(2,.pointer (some ⟨g2,0,none⟩)),(4,.pointer (some ⟨g4,0,none⟩)),(5,.pointer (some ⟨g5,0,none⟩)),(17,.slice A1 m1 c1),(18,.int .i64 (m1:Int)),(19,.int .i64 (x:Int))]) (fun x w0=>x≤m1∧aK w0 ib oC (b8 (bP (aQ ys) (List.replicate ys.length false) (ids.take x)))∧Ext w w0∧aK w0 g2 pV (q9 A ys.length c r)∧aK w0 g4 qY [.slice none 0 0,.map none,.slice none 0 0]∧aK w0 g5 qY (xX A ys.length c r ib)) (fun x=>m1-x) 0 Fr.ok ⟨Nat.zero_le _,by simpa [bP]using hIn,hE,hB2,hB4,hB5⟩ ?_;intro x w13 hl13;clear hE hB2 hB4 hB5 hIn;obtain⟨hxm,hIn,hE,hB2,hB4,hB5⟩:=hl13;have hzE:=hE.size;have hlti2:=hIn.lt;refine CW.sr fun K4 hK4=>WL.v (Y.lss rfl rfl)<|WL.nil (hK4 _ _ ?_);clear hK4;refine CW.seq fun K5 hK5=>?_;refine bp ?_ ?_<;>intro ht6
 ·refine CW.skip ?_;refine hK5 _ _ ?_;clear hK5;refine CW.seq fun K7 hK7=>?_;refine CW.block<|CW.seq fun K8 hK8=>?_;obtain⟨d,hd⟩:∃d,ids[x]? =some d:=⟨_,List.getElem?_eq_getElem ai⟩;obtain⟨a2,rfl,hma2⟩:=hdg _ _ hd;have hdi:=hin d (List.mem_of_getElem? hd);have hix:=ic hdi;rw [hnl]at hix;obtain⟨jf,hf⟩:=mZ hdi;obtain⟨cb2,hcb2⟩:∃cb,(bP (aQ ys) (List.replicate ys.length false) (ids.take x))[jh (aQ ys) d]? =some cb:=⟨_,List.getElem?_eq_getElem (by rw [cE,List.length_replicate];omega)⟩;refine CW.region<|WL.v (Y.af underlying25 rfl rfl aJ ai)<|WL.v (Y.load underlying42 rfl (hma2.ext hE) (aj _) rfl) ?_;refine ck rfl aL aw fun g7 w14 hx14 hg7 hB7=>?_;have hlt7:=hB7.lt;have hz14:=hx14.size;have hE:=hE.ae hx14;have hB2:=hB2.ext hx14;have hB4:=hB4.ext hx14;have hB5:=hB5.ext hx14;refine WL.nil (hK8 _ _ ?_);clear hK8;refine CW.head 7 aG aG fun w15 hx15=>?_;skip;have hz15:=hx15.size;have hE:=hE.ae hx15;have hB2:=hB2.ext hx15;have hB4:=hB4.ext hx15;have hB5:=hB5.ext hx15;have hB7:=hB7.ext hx15;refine HL.val (Y.fieldAddr ee rfl) aw<|HL.val (Y.ah underlying79 rfl hB5.mem.fv rfl) aw<|HL.val (Y.fieldAddr dI rfl) aw<|HL.val (Y.ah underlying71 rfl hB2.mem.fg rfl) aw<|HL.val (Y.load underlying42 rfl hB7.mem (aj _) rfl) aw<|HL.val (Y.o9 iP (fun _=>rfl) underlying71 rfl rfl (hM.ext hE) hf rfl) aw<|HL.val (Y.af underlying79 rfl rfl cQ ai) aw<|HL.nil<|WL.lU rfl rfl rfl eO ((hIn.ext hx14).ext hx15) hcb2 (fun w16 hc16 hB16_=>?_);have hz16:=hc16.size;have hE:=hE.step hc16 (fun k h=>by omega);have hB2:=hB2.aA hc16 cq;have hB4:=hB4.aA hc16 cq;have hB5:=hB5.aA hc16 cq;have hB7:=hB7.aA hc16 cq;have hIn:=hB16_;refine WL.nil (hK7 _ _ ?_);clear hK7;refine CW.region<|WL.v (Y.add rfl rfl bB)<|WL.m rfl<|WL.nil ?_;refine⟨x+1,by show m1-(x+1)<m1-x;omega,Fr.ok,by show x+1≤m1;omega,?_,hE,hB2,hB4,hB5⟩;show aK _ _ _ (b8 (bP _ _ (ids.take (x+1))));rw [take_succ hd,iN];exact hIn
 refine CW.exit ?_;refine hK2 _ _ ?_;clear hK2;refine CW.seq fun K9 hK9=>CW.sr fun K10 hK10=>WL.v (Y.fieldAddr cS rfl)<|WL.v (Y.ah underlying38 rfl hB2.mem.eG rfl)<|WL.v (Y.aq underlying38 rfl)<|WL.v (Y.sub rfl rfl bB)<|WL.a rfl<|WL.nil (hK10 _ _ ?_);clear hK10;refine CW.block ?_;refine CW.loop (X:=Nat×List Bool) (fun x=>[(2,.pointer (some ⟨g2,0,none⟩)),(4,.pointer (some ⟨g4,0,none⟩)),(5,.pointer (some ⟨g5,0,none⟩)),(8,.int .i64 ((x.1:Int)-1))]) (fun x w0=>x.1≤ys.length∧aK w0 ib oC (b8 x.2)∧x.2.length=ys.length∧fJ (aQ ys) ids=iK (aQ ys) x.1 x.2∧Ext w w0∧aK w0 g2 pV (q9 A ys.length c r)∧aK w0 g4 qY [.slice none 0 0,.map none,.slice none 0 0]∧aK w0 g5 qY (xX A ys.length c r ib)) (fun x=>x.1) (ys.length,bP (aQ ys) (List.replicate ys.length false) ids) Fr.ok ⟨Nat.le_refl _,(by rw [List.take_of_length_le ai]at hIn;exact hIn),by simp [cE],by rw [fJ,kv,hnl],hE,hB2,hB4,hB5⟩ ?_;intro x w17 hl17;clear hE hIn hB2 hB4 hB5;obtain⟨k,U⟩:=x;dsimp only at hl17⊢;obtain⟨hkl,hIn,hUl,hmk,hE,hB2,hB4,hB5⟩:=hl17;have hzE:=hE.size;have hlti2:=hIn.lt;refine CW.seq fun K11 hK11=>CW.sr fun K12 hK12=>WL.m rfl<|WL.v (Y.geq rfl rfl)<|WL.nil (hK12 _ _ ?_);clear hK12;refine bp ?_ ?_<;>intro ht13
 ·refine CW.skip ?_;refine hK11 _ _ ?_;clear hK11;refine CW.seq fun K14 hK14=>?_;refine CW.block<|CW.seq fun K15 hK15=>?_;obtain⟨i,rfl⟩:∃i,k=i+1:=⟨k-1,by omega⟩;rw [show(((i+1:Nat):Int)-1)=(i:Int)by omega];obtain⟨y,hy⟩:∃y,ys[i]? =some y:=⟨_,List.getElem?_eq_getElem ai⟩;obtain⟨⟨id,ps⟩,Ay,cy⟩:=y;have hyn:(aQ ys)[i]? =some ⟨id,ps⟩:=by simp [hy]
  obtain⟨cu,hcu⟩:∃c,U[i]? =some c:=⟨_,List.getElem?_eq_getElem ai⟩;obtain⟨a,rfl,hma⟩:=hN.sl.at hy;have hps0:=hN.ps _ (List.mem_of_getElem? hy);dsimp only [gj.pv]at hps0;have hps1:=hps0;obtain⟨_,_,_,he_,_,hcy,hcy2,_⟩:=hps1;cases he_
  unfold maxLen at hcy2;refine CW.region<|WL.v (Y.fieldAddr cS rfl)<|WL.v (Y.ah underlying38 rfl hB2.mem.eG rfl)<|WL.m rfl<|WL.v (Y.af underlying38 rfl rfl cc ai)<|WL.v (Y.fieldAddr dW rfl)<|WL.v (Y.ah underlying25 rfl (hma.ext hE).node1 rfl)<|WL.v (Y.aq underlying25 rfl)<|WL.m rfl<|WL.nil (hK15 _ _ ?_);clear hK15;refine CW.block ?_;refine CW.loop (X:=Nat) (fun x=>[(2,.pointer (some ⟨g2,0,none⟩)),(4,.pointer (some ⟨g4,0,none⟩)),(5,.pointer (some ⟨g5,0,none⟩)),(8,.int .i64 (i:Int)),(44,.slice Ay ps.length cy),(45,.int .i64 (ps.length:Int)),(46,.int .i64 (x:Int))]) (fun x w0=>x≤ps.length∧aK w0 ib oC (b8 (if cu=true then bP (aQ ys) U (ps.take x)else U))∧Ext w w0∧aK w0 g2 pV (q9 (some a) ys.length c r)∧aK w0 g4 qY [.slice none 0 0,.map none,.slice none 0 0]∧aK w0 g5 qY (xX (some a) ys.length c r ib)∧w17.heap.size≤w0.heap.size) (fun x=>ps.length-x) 0 Fr.ok ⟨Nat.zero_le _,by simpa [bP]using hIn,hE,hB2,hB4,hB5,Nat.le_refl _⟩ ?_;intro x w18 hl18;clear hE hIn hB2 hB4 hB5;obtain⟨hxp,hIn,hE,hB2,hB4,hB5,hz18⟩:=hl18;have hlti3:=hIn.lt;have hcx:(if cu=true then bP (aQ ys) U (ps.take x)else U)[i]? =some cu:=by
   split
   ·rw [uF fun q hq=>by have:=(jv hok hyn (List.mem_of_mem_take hq)).2;omega];exact hcu
   ·exact hcu
  refine CW.sr fun K16 hK16=>WL.v (Y.lss rfl rfl)<|WL.nil (hK16 _ _ ?_);clear hK16;refine CW.seq fun K17 hK17=>?_;refine bp ?_ ?_<;>intro ht18
  ·refine CW.skip ?_;refine hK17 _ _ ?_;clear hK17;refine CW.bK (X:=Unit) (fun _=>[(2,.pointer (some ⟨g2,0,none⟩)),(4,.pointer (some ⟨g4,0,none⟩)),(5,.pointer (some ⟨g5,0,none⟩)),(8,.int .i64 (i:Int)),(44,.slice Ay ps.length cy),(45,.int .i64 (ps.length:Int)),(46,.int .i64 (x:Int))]) (fun _ w0=>aK w0 ib oC (b8 (if cu=true then bP (aQ ys) U (ps.take (x+1))else U))∧Ext w w0∧aK w0 g2 pV (q9 (some a) ys.length c r)∧aK w0 g4 qY [.slice none 0 0,.map none,.slice none 0 0]∧aK w0 g5 qY (xX (some a) ys.length c r ib)∧w18.heap.size≤w0.heap.size) ?_ ?_
   ·refine CW.block<|CW.seq fun K20 hK20=>?_;obtain⟨d,hd⟩:∃d,ps[x]? =some d:=⟨_,List.getElem?_eq_getElem ai⟩;obtain⟨a2,rfl,hma2⟩:=hps0.at hd;have hdi:=(fun d hd=>qU (Ad hok hyn hd)) d (List.mem_of_getElem? hd);have hix:=ic hdi;rw [hnl]at hix;obtain⟨jf,hf⟩:=mZ hdi;obtain⟨cb2,hcb2⟩:∃cb,(bP (aQ ys) U (ps.take x))[jh (aQ ys) d]? =some cb:=⟨_,List.getElem?_eq_getElem (by rw [cE];omega)⟩;refine CW.region<|WL.v (Y.af underlying25 rfl rfl aJ ai)<|WL.v (Y.load underlying42 rfl ((hma2.ext hE)) (aj _) rfl) ?_;refine ck rfl aL aw fun g10 w19 hx19 hg10 hB10=>?_;have hlt10:=hB10.lt;have hz19:=hx19.size;have hE:=hE.ae hx19;have hB2:=hB2.ext hx19;have hB4:=hB4.ext hx19;have hB5:=hB5.ext hx19;refine WL.nil (hK20 _ _ ?_);clear hK20;refine CW.sr fun K21 hK21=>WL.v (Y.fieldAddr ee rfl)<|WL.v (Y.ah underlying79 rfl hB5.mem.fv rfl)<|WL.m rfl<|WL.v (Y.af underlying79 rfl rfl cQ ai)<|WL.v (Y.ah underlying4 rfl ((hIn.ext hx19).mh hcx) rfl)<|WL.nil (hK21 _ _ ?_);clear hK21;refine bp ?_ ?_<;>intro ht22
    ·rw [if_pos ht22]at hIn;refine CW.head 7 aG aG fun w20 hx20=>?_;skip;have hz20:=hx20.size;have hE:=hE.ae hx20;have hB2:=hB2.ext hx20;have hB4:=hB4.ext hx20;have hB5:=hB5.ext hx20;have hB10:=hB10.ext hx20;refine HL.val (Y.fieldAddr ee rfl) aw<|HL.val (Y.ah underlying79 rfl hB5.mem.fv rfl) aw<|HL.val (Y.fieldAddr dI rfl) aw<|HL.val (Y.ah underlying71 rfl hB2.mem.fg rfl) aw<|HL.val (Y.load underlying42 rfl hB10.mem (aj _) rfl) aw<|HL.val (Y.o9 iP (fun _=>rfl) underlying71 rfl rfl (hM.ext hE) hf rfl) aw<|HL.val (Y.af underlying79 rfl rfl cQ ai) aw<|HL.nil<|WL.lU rfl rfl rfl eO ((hIn.ext hx19).ext hx20) hcb2 (fun w21 hc21 hB21_=>?_);have hz21:=hc21.size;have hE:=hE.step hc21 (fun k h=>by omega);have hB2:=hB2.aA hc21 cq;have hB4:=hB4.aA hc21 cq;have hB5:=hB5.aA hc21 cq;have hB10:=hB10.aA hc21 cq;refine WL.nil ?_;exact⟨(),Fr.ok,by rw [if_pos ht22,take_succ hd,iN];exact hB21_,hE,hB2,hB4,hB5,by omega⟩
    refine CW.skip ?_;exact⟨(),Fr.ok,by rw [if_neg (by simp [ht22])]at hIn⊢;exact hIn.ext hx19,hE,hB2,hB4,hB5,by omega⟩
   rintro u w22 hj22;clear hE hB2 hB4 hB5 hIn;obtain⟨hIn,hE,hB2,hB4,hB5,hz9⟩:=hj22;refine CW.region<|WL.v (Y.add rfl rfl bB)<|WL.m rfl<|WL.nil ?_;exact⟨x+1,by show ps.length-(x+1)<ps.length-x;omega,Fr.ok,by show x+1≤ps.length;omega,hIn,hE,hB2,hB4,hB5,by omega⟩
  refine CW.exit ?_;refine hK14 _ _ ?_;clear hK14;refine CW.region<|WL.m rfl<|WL.v (Y.sub rfl rfl bB)<|WL.a rfl<|WL.nil ?_;refine⟨(i,if cu=true then bP (aQ ys) U ps else U),by show i<i+1;omega,Fr.ok,by show i≤ys.length;omega,?_,?_,?_,hE,hB2,hB4,hB5⟩
  ·have h9:=hIn;rw [List.take_of_length_le ai]at h9;exact h9
  ·show(ite _ _ _:List Bool).length=_;split<;>simp [cE,hUl]
  ·show _=iK (aQ ys) i _;rw [hmk,iK];congr 1;cases cu with
   |true=>rw [wk hyn hcu];rfl
   |false=>rw [vX (by rw [hcu];simp)];rfl
 refine CW.exit ?_;refine hK9 _ _ ?_;clear hK9;refine CW.sr fun K23 hK23=>WL.v (Y.load underlying81 rfl hB5.mem (kO _ _ _) rfl)<|WL.store (g:=g4) (pre:=[]) (old:=[.slice none 0 0,.map none,.slice none 0 0]) (post:=[]) (new:=xX A ys.length c r ib) rfl rfl rfl rfl aG (by simpa using hB4) j0 (Gm rfl rfl rfl) (fun w23 hc23 hB23_=>?_);have hz23:=hc23.size;have hE:=hE.step hc23 (fun k h=>by omega);have hB2:=hB2.aA hc23 cq;have hB5:=hB5.aA hc23 cq;have hB4:aK w23 g4 qY (xX A ys.length c r ib):=by simpa using hB23_
 have hIn:=hIn.aA hc23 cq;refine WL.nil (hK23 _ _ ?_);clear hK23;refine CW.ret ?_;have hk0:k=0:=by omega
 subst hk0;exact⟨_,_,rfl,hB4.mem,rfl,ib,rfl,by omega,by rw [hmk];exact hIn,hE⟩
end Go.Proofs.YtmehkigmnpjcjaaGreatDoor
namespace Go.Fw
open Go.RowKit Go.Pl
section
variable {P:Program} {n:NN} {fr:Fr} {w:World} {ty:TypeId}
theorem Y.Jr{x y:Operand}{p:Int}{t t':TypeId}(hx:ev fr x=some (.int .i64 p))(hy:ev fr y=some (.int .i64 1))(h1:1≤p)(hb:p≤9223372036854775807):Yw P n fr (.binOp .sub t x y t') ty w (.int .i64 ((p-1).toNat:Int)) w:=by
 have h:=Y.sub (P:=P) (n:=n) (w:=w) (ty:=ty) (t:=t) (t':=t') hx hy bB;rwa [show p-1=((p-1).toNat:Int)by omega]at h
def xT(ids:List aD)(d:aD):Nat:=if d∈ids then ids.idxOf d else 0
theorem Aw{ids:List aD}{d:aD}:xk zI (.int .i64 0) (cV Prod.fst d (eu ids) 0)= .int .i64 (xT ids d:Int)∧(cV Prod.fst d (eu ids) 0).isSome=decide (d∈ids):=by
 have h:=da (d:=d) (ids:=ids) (k:=0) (i:=0);rw [show ids.zipIdx 0=eu ids from rfl]at h;refine⟨?_,h⟩;cases hf:cV Prod.fst d (eu ids) 0 with
 |none=>
  rw [hf]at h;have:d∉ids:=by simpa using h
  rw [xT,if_neg this];rfl
 |some p=>
  obtain⟨j,e⟩:=p;rw [hf]at h;have hm:d∈ids:=by simpa using h
  obtain⟨h1,h2,h3,h4⟩:=mA (k:=0) hf;simp only [Nat.sub_zero]at h2 h4;have h5:=o8 (i:=e.2) h2 h4;rw [gw,if_pos hm]at h5;rw [xT,if_pos hm];show Value.int .i64 (e.2:Int)=_;rw [h5]
end
structure jB where
 c:bx
 A:Option Addr
 ca:Nat
 B:Option Addr
 cb:Nat
abbrev jB.pv(x:jB):Value:= .slice x.A x.c.parents.length x.ca
abbrev jB.ov(x:jB):Value:= .slice x.B x.c.ops.length x.cb
def FF(x:jB):List Value:=dt x.pv x.c.author x.c.note x.ov
theorem yw(x:jB):(FF x).length=4:=rfl
abbrev JK(x:jB):Value:= .agg (FF x).toArray
structure wt(w:World)(x:jB):Prop where
 ps:Sl w aN 32 x.pv x.c.parents
 os:Sl w eM 37 x.ov x.c.ops
 au:x.c.author.size≤maxLen
 no:x.c.note.size≤maxLen
theorem wt.ext{w w':World}{x:jB}(h:wt w x)(hc:Ext w w'):wt w' x:=⟨h.ps.ext hc,h.os.ext hc,h.au,h.no⟩
theorem wt.C1{w:World}{x:jB}(h:wt w x):Bh w (JK x) x.c:=⟨x.pv,x.ov,rfl,h.ps,h.os,h.au,h.no⟩
structure ua(w:World)(u:Value)(l:List jB):Prop where
 sl:Sl w FF 4 u l
 all:∀x∈l,wt w x
theorem ua.ext{w w':World}{u:Value}{l:List jB}(h:ua w u l)(hc:Ext w w'):ua w' u l:=⟨h.sl.ext hc,fun x hx=>(h.all x hx).ext hc⟩
abbrev bN(l:List jB):List bx:=l.map jB.c
end Go.Fw
namespace Go.Proofs.YtmehkigmnpjcjaaGreatDoor
open Go.RowKit Go.Fw Go.Pl Go.Sort Go.Fu Go.Proofs.Tryz
section
variable {n:NN} {fr:Fr} {w:World} {ty:TypeId}
theorem Y.rE{x y:Operand}{d:aD}{ids:List aD}{r cl:Nat}(hx:ev fr x=some (.map (some r)))(hy:ev fr y=some (cU d))(hM:b7 w r zI (eu ids) cl):
  Yw prog n fr (.lookup 71 x y true) ty w (.tuple #[.int .i64 (xT ids d:Int),.bool (decide (d∈ids))]) w:=by
 have h:=Y.mC (ty:=ty) (n:=n) iP (fun _=>rfl) underlying71 mU hx hy hM;rw [Aw.1,Aw.2]at h;exact h
end
theorem db:(prog.info? 29).map (·.size)=some 4:=by kernel_rfl
theorem Hf{P:List bx}{d:aD}(h:d∈dK P):xT (dK P) d=jh (bH P) d:=by rw [xT,if_pos h,jh,cR]
theorem G3{P:List bx}{d:aD}(h:d∈dK P):xT (dK P) d<P.length:=by
 rw [xT,if_pos h];have:=List.idxOf_lt_length_iff.2 h;simpa using this
theorem wz{w:World}{A2:Option Addr}{m2 c2:Nat}{l:List jB}{P:List bx}(hl:ua w (.slice A2 m2 c2) l)(hPl:P=(bN l).take P.length)(U:List Bool)(hU:U.length=P.length)(d:aD):
  ∃(x:jB) (a2 a3:Addr),d∈dK P→A2=some a2∧Mem w (a2.add (xT (dK P) d*4)) (FF x)∧xT (dK P) d<m2∧x.c.ops=nK P d∧U[xT (dK P) d]? =some (cK U (bH P) d)∧Sl w eM 37 x.ov x.c.ops∧(x.c.ops≠[]→x.B=some a3):=by
 by_cases h:d∈dK P
 ·have hlt:=G3 h;obtain⟨p,h1⟩:∃p,P[xT (dK P) d]? =some p:=⟨_,List.getElem?_eq_getElem hlt⟩;have h2:((bN l).take P.length)[xT (dK P) d]? =some p:=by rw [←hPl];exact h1
  rw [List.getElem?_take,if_pos hlt,List.getElem?_map]at h2;obtain⟨x,hx,rfl⟩:=Option.map_eq_some_iff.1 h2;obtain⟨A',m',c',he,hlm,_,_,hg⟩:=id hl.sl;cases he
  obtain⟨a2,rfl,hm⟩:=hg _ _ hx;have hos:=(hl.all x (List.mem_of_getElem? hx)).os;have hxl:=(List.getElem?_eq_some_iff.1 hx).1;have e3:∃a3,x.c.ops≠[]→x.B=some a3:=by
   cases ho:x.c.ops with
   |nil=>exact⟨⟨0,0,none⟩,fun h=>absurd rfl h⟩
   |cons o r=>
    obtain⟨B,mb,cb,he,_,_,_,hg⟩:=hos;obtain⟨a3,ha,_⟩:=hg 0 o (by rw [ho];rfl);injection he with he
    exact⟨a3,fun _=>he.trans ha⟩
  obtain⟨a3,h3⟩:=e3;refine⟨x,a2,a3,fun _=>⟨rfl,hm,by omega,?_,?_,hos,h3⟩⟩
  ·rw [nK,←Hf h,h1];rfl
  ·rw [cK,←Hf h];have:U[xT (dK P) d]? =some U[xT (dK P) d]:=List.getElem?_eq_getElem ai;rw [this];rfl
 ·exact⟨⟨HP,none,0,none,0⟩,⟨0,0,none⟩,⟨0,0,none⟩,fun hh=>absurd hh h⟩
set_option maxRecDepth 100000 in
theorem zA(A:Option Addr)(c r cl b:Nat)(ys:List gj)(P:List bx)(ids:List aD)(A2:Option Addr)(m2 c2:Nat)(l:List jB)(rr:aF)(w:World)(hP:tS w A c r cl ys P)(hB:aK w b oC (b8 (fJ (aQ ys) ids)))(hl:ua w (.slice A2 m2 c2) l)(hPl:P=(bN l).take P.length)(hn:1≤rr.n∧rr.n≤2000):Calls prog 77 #[.agg (xX A ys.length c r b).toArray,.slice A2 m2 c2,dE rr] w (cB fun v w'=>v= .bool (lC P ids rr)∧Ext w w'):=by
 have hyl:=hP.len;obtain⟨x,a2,a3,hfd⟩:=wz hl hPl (fJ (bH P) ids) (by rw [iA,List.length_map]) rr.c;rw [hP.is]at hB;refine ar 51 [6] [(0,.agg (xX A ys.length c r b).toArray),(1,.slice A2 m2 c2),(2,dE rr)] func77 rfl rfl rfl aL iI ?_;have hE:Ext w w:=aE.refl;refine CW.sr fun K1 hK1=>WL.box rfl rfl aw fun g3 w1 hx1 hg3 hB3=>?_;have hlt3:=hB3.lt;have hz1:=hx1.size;have hE:=hE.ae hx1;refine WL.box rfl rfl aw fun g5 w2 hx2 hg5 hB5=>?_;have hlt5:=hB5.lt;have hz2:=hx2.size;have hE:=hE.ae hx2;have hB3:=hB3.ext hx2;refine WL.a rfl<|WL.nil (hK1 _ _ ?_);clear hK1;refine CW.sr fun K2 hK2=>WL.v (Y.fieldAddr oH rfl)<|WL.v (Y.fieldAddr dI rfl)<|WL.v (Y.ah underlying71 rfl hB3.mem.rk.fg rfl)<|WL.v (Y.fieldAddr cw rfl)<|WL.v (Y.load underlying42 rfl hB5.mem.mr (aj _) rfl)<|WL.v (Y.rE rfl rfl (hP.map.ext hE))<|WL.m rfl<|WL.v (Y.extract rfl rfl)<|WL.v (Y.extract rfl rfl)<|WL.a rfl<|WL.a rfl<|WL.nil (hK2 _ _ ?_);clear hK2;refine CW.seq fun K3 hK3=>CW.quiet (fun wq=>Ext w2 wq) aG aG aE.drew<|QL.m rfl<|QL.m rfl ?_;refine dO ?_ ?_<;>intro hg19
 ·obtain⟨rfl,hmx,hlk,hops,hU,hos,_⟩:=hfd hg19;obtain⟨xc,xA,xca,xB,xcb⟩:=x;dsimp only at hmx hops hos;refine QL.g rfl rfl (fun wq hq=>Y.fieldAddr ee rfl)<|QL.g rfl rfl (fun wq hq=>Y.ah underlying79 rfl (hB3.ext hq).mem.fv rfl)<|QL.g rfl rfl (fun wq hq=>Y.move rfl)<|QL.g rfl rfl (fun wq hq=>Y.af underlying79 rfl rfl cQ (by have:=G3 hg19;omega))<|QL.g rfl rfl (fun wq hq=>Y.ah underlying4 rfl ((hB.ext (hE.ae hq)).mh hU) rfl)<|QL.v (fun wq hq=>Y.pick rfl rfl)<|QL.m rfl ?_;refine dO ?_ ?_<;>intro hg26
  ·refine QL.g rfl rfl (fun wq hq=>Y.fieldAddr bF rfl)<|QL.g rfl rfl (fun wq hq=>Y.ah underlying3 rfl (hB5.ext hq).mem.iR rfl)<|QL.g rfl rfl (fun wq hq=>Y.move rfl)<|QL.g rfl rfl (fun wq hq=>Y.move rfl)<|QL.g rfl rfl (fun wq hq=>Y.af underlying22 rfl rfl db hlk)<|QL.g rfl rfl (fun wq hq=>Y.fieldAddr bq rfl)<|QL.g rfl rfl (fun wq hq=>Y.ah underlying27 rfl (show wq.cell? _=some (.slice xB xc.ops.length xcb)from(hmx.ext (hE.ae hq)).jo) rfl)<|QL.g rfl rfl (fun wq hq=>Y.aq underlying27 rfl)<|QL.g rfl rfl (fun wq hq=>Y.leq rfl rfl)<|QL.v (fun wq hq=>Y.pick rfl rfl)<|QL.m rfl ?_;refine dO ?_ ?_<;>intro hg37
   ·obtain⟨o,ho⟩:∃o,xc.ops[(rr.n-1).toNat]? =some o:=⟨_,List.getElem?_eq_getElem ai⟩;obtain⟨a4,rfl,hmo⟩:=hos.at ho;refine QL.g rfl rfl (fun wq hq=>Y.move rfl)<|QL.g rfl rfl (fun wq hq=>Y.move rfl)<|QL.g rfl rfl (fun wq hq=>Y.af underlying22 rfl rfl db hlk)<|QL.g rfl rfl (fun wq hq=>Y.fieldAddr bq rfl)<|QL.g rfl rfl (fun wq hq=>Y.ah underlying27 rfl (show wq.cell? _=some (.slice (some a4) xc.ops.length xcb)from(hmx.ext (hE.ae hq)).jo) rfl)<|QL.g rfl rfl (fun wq hq=>Y.fieldAddr bF rfl)<|QL.g rfl rfl (fun wq hq=>Y.ah underlying3 rfl (hB5.ext hq).mem.iR rfl)<|QL.g rfl rfl (fun wq hq=>Y.Jr rfl rfl hn.1 ai)<|QL.g rfl rfl (fun wq hq=>Y.af underlying27 rfl rfl bQ ai)<|QL.g rfl rfl (fun wq hq=>Y.fieldAddr dg rfl)<|QL.g rfl rfl (fun wq hq=>Y.ah underlying3 rfl (hmo.ext (hE.ae hq)).yr rfl)<|QL.g rfl rfl (fun wq hq=>Y.eql rfl rfl)<|QL.v (fun wq hq=>Y.pick rfl rfl) ?_;refine QL.a rfl<|QL.nil fun w3 hx3=>?_;have hz3:=hx3.size;have hE:=hE.ae hx3;refine hK3 _ _ ?_;clear hK3;refine CW.ret ⟨_,rfl,?_⟩;exact⟨by rw [lC,decide_eq_true hg19,hg26,←hops,decide_eq_true hg37,ep,ho];rfl,hE⟩
   ·refine QL.o rfl rfl<|QL.o rfl rfl<|QL.o rfl rfl<|QL.o rfl rfl<|QL.o rfl rfl<|QL.o rfl rfl<|QL.o rfl rfl<|QL.o rfl rfl<|QL.o rfl rfl<|QL.o rfl rfl<|QL.o rfl rfl<|QL.o rfl rfl<|QL.v (fun wq hq=>Y.pick rfl rfl) ?_;refine QL.a rfl<|QL.nil fun w4 hx4=>?_;have hz4:=hx4.size;have hE:=hE.ae hx4;refine hK3 _ _ ?_;clear hK3;refine CW.ret ⟨_,rfl,?_⟩;exact⟨by rw [lC,decide_eq_true hg19,hg26,←hops,decide_eq_false hg37];rfl,hE⟩
  ·refine QL.o rfl rfl<|QL.o rfl rfl<|QL.o rfl rfl<|QL.o rfl rfl<|QL.o rfl rfl<|QL.o rfl rfl<|QL.o rfl rfl<|QL.o rfl rfl<|QL.o rfl rfl<|QL.v (fun wq hq=>Y.pick rfl rfl)<|QL.m rfl<|QL.o rfl rfl<|QL.o rfl rfl ?_;refine QL.o rfl rfl<|QL.o rfl rfl<|QL.o rfl rfl<|QL.o rfl rfl<|QL.o rfl rfl<|QL.o rfl rfl<|QL.o rfl rfl<|QL.o rfl rfl<|QL.o rfl rfl<|QL.o rfl rfl<|QL.v (fun wq hq=>Y.pick rfl rfl)<|QL.a rfl<|QL.nil fun w5 hx5=>?_;have hz5:=hx5.size;have hE:=hE.ae hx5;refine hK3 _ _ ?_;clear hK3;refine CW.ret ⟨_,rfl,?_⟩;exact⟨by rw [lC,hg26];simp,hE⟩
 ·refine QL.o rfl rfl<|QL.o rfl rfl<|QL.o rfl rfl<|QL.o rfl rfl<|QL.o rfl rfl<|QL.v (fun wq hq=>Y.pick rfl rfl)<|QL.m rfl<|QL.o rfl rfl<|QL.o rfl rfl<|QL.o rfl rfl<|QL.o rfl rfl<|QL.o rfl rfl<|QL.o rfl rfl ?_;refine QL.o rfl rfl<|QL.o rfl rfl<|QL.o rfl rfl<|QL.v (fun wq hq=>Y.pick rfl rfl)<|QL.m rfl<|QL.o rfl rfl<|QL.o rfl rfl<|QL.o rfl rfl<|QL.o rfl rfl<|QL.o rfl rfl<|QL.o rfl rfl<|QL.o rfl rfl<|QL.o rfl rfl ?_;refine QL.o rfl rfl<|QL.o rfl rfl<|QL.o rfl rfl<|QL.o rfl rfl<|QL.v (fun wq hq=>Y.pick rfl rfl)<|QL.a rfl<|QL.nil fun w6 hx6=>?_;have hz6:=hx6.size;have hE:=hE.ae hx6;refine hK3 _ _ ?_;clear hK3;refine CW.ret ⟨_,rfl,?_⟩;exact⟨by rw [lC,decide_eq_false hg19];rfl,hE⟩
end Go.Proofs.YtmehkigmnpjcjaaGreatDoor
