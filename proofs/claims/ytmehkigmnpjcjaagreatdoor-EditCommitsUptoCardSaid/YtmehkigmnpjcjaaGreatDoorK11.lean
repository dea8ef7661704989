/- Parts of a proof: what its last text leans on. No condition. -/
import Derived.Test.YtmehkigmnpjcjaaGreatDoorK10
set_option linter.unusedSimpArgs false
set_option linter.unusedVariables false
namespace Go.Fw
open Go.RowKit
theorem Jz{P:Program}{t e:TypeId}{ie:TypeInfo}{z:Value}{a b:Value}(hu:P.underlying t=some (.slice e))(hi:P.info? e=some ie)(hz:ie.zero=some z)(h1:ie.size=1)(ha:a.cells= #[a])(hb:b.cells= #[b])(w:World):
  (Instr.buildSlice t 2 [(0,a),(1,b)].toArray).run P w= .ok (.slice (some ⟨w.heap.size,0,none⟩) 2 2) (w.alloc (.cells [a,b].toArray e)):=by
 refine run_buildSlice w t e 2 _ _ ie z hu hi hz ai ai ?_;have h:=Go.Great.fill_whole (s:=ie.size) ai [a,b] ((Array.range (2*ie.size)).map (z.cells[· % z.cells.size]!)) (by intro u hu;simp at hu;rcases hu with rfl|rfl<;>simp [*]) aL;simpa [ha,hb]using h
theorem aK.Ko{w:World}{g:Nat}{e:TypeId}{ds:List (Value×List aD)}(h:aK w g e (ds.map Prod.fst))(hl:ds.length≤maxLen):Sl w (fun x:Value×List aD=>[x.1]) 1 (.slice (some ⟨g,0,none⟩) ds.length ds.length) ds:=
 ⟨_,_,_,rfl,rfl,Nat.le_refl _,hl,fun i x hi=>⟨_,rfl,by
  rw [Nat.mul_one];exact h.mem.sub i fun j v hj=>by
   cases j with
   |zero=>simp at hj;subst hj;simp [hi]
   |succ j=>simp at hj⟩⟩
end Go.Fw
namespace Go.Proofs.YtmehkigmnpjcjaaGreatDoor
open Go.RowKit Go.Fw Go.Pl Go.Sort Go.Proofs.Tryz
theorem Gq:∃i:TypeInfo,prog.info? JE=some i∧i.zero=some (.slice none 0 0)∧i.size=1:=by
 have h:(prog.info? JE).map (fun i=>(i.zero,i.size))=some (some (.slice none 0 0),1):=by kernel_rfl
 cases hi:prog.info? JE with
 |none=>simp [hi]at h
 |some i=>simp [hi]at h;exact⟨i,rfl,h.1,h.2⟩
theorem HO(A:Option Addr)(m c:Nat)(w:World):(Instr.buildSlice 165 1 [(0,.slice A m c)].toArray).run prog w= .ok (.slice (some ⟨w.heap.size,0,none⟩) 1 1) (w.alloc (.cells [.slice A m c].toArray JE)):=by
 obtain⟨i,hi,hz,hs⟩:=Gq;exact il underlying165 hi hz ai ai rfl (by rw [hs];rfl) w
theorem va{l:List Nd}{ids:List aD}(h:eh l ids=0):∀d∈ids,d∈bz l:=by
 intro d hd;unfold eh at h;split at h
 ·rename_i h1;exact absurd h h1
 ·split at h
  ·omega
  ·rename_i h2;by_cases hm:d∈bz l
   ·exact hm
   ·exact absurd ⟨d,hd,hm⟩ h2
set_option maxRecDepth 100000 in
set_option maxHeartbeats 1000000 in
theorem y6(u v0:Value)(l:List gj)(ids:List aD)(w:World)(hl:oR w u l)(hd:Sl w aN 32 v0 ids):Calls prog 23 #[u,v0] w (cB fun v w'=>∃hv,v= .tuple #[hv,.int .i64 (eh (aQ l) ids)]∧Own w' pX 32 hv (cn (if eh (aQ l) ids=0 then kU (aQ l) (kv (aQ l) ids)else []))∧(∀k,hv.ownBlock=some k→w.heap.size≤k)∧Ext w w'):=by
 have hl0:=hl;obtain⟨A,c,rfl,hmc,hcm⟩:=hl.sl.lens;unfold maxLen at hcm;have hd0:=hd;obtain⟨A1,m1,c1,rfl,hdm,hdc,hdx,hdg⟩:=hd;unfold maxLen at hdx;have hnl:(aQ l).length=l.length:=by simp
 obtain⟨bi,hbi,hbz,hbs,hbb⟩:=iS;refine ar 42 [4,5] [(0,.slice A l.length c),(1,.slice A1 m1 c1)] func23 rfl rfl rfl aL cz ?_;have hE:Ext w w:=aE.refl;refine CW.sr fun K1 hK1=>WL.a rfl<|WL.a rfl<|WL.nil (hK1 _ _ ?_);clear hK1;refine CW.sr fun K2 hK2=>WL.m rfl<|WL.m rfl<|WL.st (St.buildSlice rfl (HO _ _ _)) aw fun v14 w1 hR1=>?_;obtain⟨g14,rfl,hg14,hB14,hx1⟩:=hR1;have hz1:=hx1.size;have hE:=hE.ae hx1;refine WL.call func51 rfl rfl rfl (Ac _ _ l [(.slice A1 m1 c1,ids)] _ (hl0.ext hx1) (aK.Ko (ds:=[(.slice A1 m1 c1,ids)]) hB14 (by simp [maxLen])) (fun x hx=>by simp at hx;subst hx;exact hd0.ext hx1)) aL ?_;rintro v15 w2 hR2;obtain⟨p,rfl,hx2,hp⟩:=hR2;have hz2:=hx2.size;have hE:=hE.ae hx2;have hfl:([((.slice A1 m1 c1:Value),ids)].map Prod.snd).flatten=ids:=by simp
 simp only [hfl]at hp⊢;refine WL.m rfl<|WL.v (Y.extract rfl rfl)<|WL.v (Y.extract rfl rfl)<|WL.a rfl<|WL.a rfl<|WL.nil (hK2 _ _ ?_);clear hK2;refine CW.seq fun K3 hK3=>CW.sr fun K4 hK4=>WL.m rfl<|WL.v (Y.neq rfl rfl)<|WL.nil (hK4 _ _ ?_);clear hK4;refine bp ?_ ?_<;>intro ht5
 ·refine CW.sr fun K6 hK6=>WL.m rfl<|WL.a rfl<|WL.a rfl<|WL.nil (hK6 _ _ ?_);clear hK6;refine CW.ret ⟨_,rfl,?_⟩;have he:¬eh (aQ l) ids=0:=by assumption
  exact⟨_,rfl,by rw [if_neg he];exact Own.nil,(fun k h=>by simp [Value.ownBlock]at h),hE⟩
 refine CW.skip ?_;refine hK3 _ _ ?_;clear hK3;refine CW.seq fun K7 hK7=>?_;have hq0:eh (aQ l) ids=0:=Decidable.not_not.1 (by assumption);obtain⟨gk,r,sb,rfl,hK⟩:=hp hq0;have hin:=va hq0;have hln:=lT hK.ok;have hltK:=hK.lt;have hnew:=hK.new;refine CW.region<|WL.m rfl<|WL.v (Y.aq underlying38 rfl)<|WL.st (St.tw underlying79 hbi hbz hbs hbb rfl rfl ai) aw fun v23 w3 hR3=>?_;obtain⟨b,rfl,hb,hIn,hx3⟩:=hR3;have hz3:=hx3.size;have hE:=hE.ae hx3;have hK:=hK.ext hx3;have hltb:=hIn.lt;refine WL.a rfl<|WL.nil (hK7 _ _ ?_);clear hK7;refine CW.seq fun K8 hK8=>CW.sr fun K9 hK9=>WL.m rfl<|WL.v (Y.aq underlying25 rfl)<|WL.m rfl<|WL.nil (hK9 _ _ ?_);clear hK9;refine CW.block ?_;refine CW.loop (X:=Nat) (fun x=>[(6,.pointer (some ⟨gk,0,none⟩)),(8,.slice (some ⟨b,0,none⟩) l.length l.length),(24,.slice A1 m1 c1),(25,.int .i64 (m1:Int)),(26,.int .i64 (x:Int))]) (fun x w0=>x≤m1∧aK w0 b oC (b8 (bP (aQ l) (List.replicate l.length false) (ids.take x)))∧Ext w w0∧j7 w1 w0 gk r sb (.slice A l.length c) l (List.replicate l.length false)) (fun x=>m1-x) 0 Fr.ok ⟨Nat.zero_le _,by simpa [bP]using hIn,hE,hK⟩ ?_;intro x w4 hl4;clear hE hK hIn;obtain⟨hxm,hIn,hE,hK⟩:=hl4;have hltK2:=hK.lt;have hltb2:=hIn.lt;have hzE:=hE.size;refine CW.sr fun K10 hK10=>WL.v (Y.lss rfl rfl)<|WL.nil (hK10 _ _ ?_);clear hK10;refine CW.seq fun K11 hK11=>?_;refine bp ?_ ?_<;>intro ht12
 ·refine CW.skip ?_;refine hK11 _ _ ?_;clear hK11;refine CW.seq fun K13 hK13=>?_;refine CW.block<|CW.seq fun K14 hK14=>?_;obtain⟨d,hd⟩:∃d,ids[x]? =some d:=⟨_,List.getElem?_eq_getElem ai⟩;obtain⟨a,rfl,hma⟩:=hdg _ _ hd;have hix:=ic (hin d (List.mem_of_getElem? hd));rw [hnl]at hix;obtain⟨jf,hf⟩:=mZ (hin d (List.mem_of_getElem? hd));obtain⟨cb,hcb⟩:∃cb,(bP (aQ l) (List.replicate l.length false) (ids.take x))[jh (aQ l) d]? =some cb:=⟨_,List.getElem?_eq_getElem (by rw [cE,List.length_replicate];omega)⟩;refine CW.region<|WL.v (Y.af underlying25 rfl rfl aJ ai)<|WL.v (Y.load underlying42 rfl (hma.ext hE) (aj _) rfl) ?_;refine ck rfl aL aw fun g10 w5 hx5 hg10 hB10=>?_;have hlt10:=hB10.lt;have hz5:=hx5.size;have hE:=hE.ae hx5;refine WL.nil (hK14 _ _ ?_);clear hK14;refine CW.head 8 aG aG fun w6 hx6=>?_;skip;have hz6:=hx6.size;have hE:=hE.ae hx6;have hB10:=hB10.ext hx6;refine HL.val (Y.move rfl) aw<|HL.val (Y.move rfl) aw<|HL.val (Y.nilCheck rfl) aw<|HL.val (Y.fieldAddr nB rfl) aw<|HL.val (Y.ah underlying71 rfl ((hK.ext hx5).ext hx6).bY.mem.sz rfl) aw<|HL.val (Y.load underlying42 rfl hB10.mem (aj _) rfl) aw<|HL.val (Y.o9 iP (fun _=>rfl) underlying71 rfl rfl ((hK.ext hx5).ext hx6).map hf rfl) aw<|HL.val (Y.af underlying79 rfl rfl cQ ai) aw<|HL.nil<|WL.lU rfl rfl rfl eO ((hIn.ext hx5).ext hx6) hcb (fun w7 hc7 hB7_=>?_);have hz7:=hc7.size;have hE:=hE.step hc7 (fun k h=>by omega);have hB10:=hB10.aA hc7 cq;have hK:=((hK.ext hx5).ext hx6).aA hc7 cq cq cq (fun k h=>by omega);refine WL.nil (hK13 _ _ ?_);clear hK13;refine CW.region<|WL.v (Y.add rfl rfl bB)<|WL.m rfl<|WL.nil ?_;refine⟨x+1,by show m1-(x+1)<m1-x;omega,Fr.ok,by show x+1≤m1;omega,?_,hE,hK⟩;show aK _ _ _ (b8 (bP _ _ (ids.take (x+1))));rw [take_succ hd,iN];exact hB7_
 refine CW.exit ?_;refine hK8 _ _ ?_;clear hK8;refine CW.sr fun K15 hK15=>WL.m rfl<|WL.m rfl<|WL.call func52 rfl rfl rfl (zL w1 _ gk r sb b _ l _ (kv (aQ l) ids) hK (by rw [kv,hnl];rw [List.take_of_length_le ai]at hIn;exact hIn) (by rw [jH,hnl])) aL ?_;rintro v41 w8 hR8;obtain⟨hO,hfu,hx8⟩:=hR8;have hz8:=hx8.size;have hzE2:=hE.size;have hE:=hE.ae hx8;refine WL.a rfl<|WL.a rfl<|WL.nil (hK15 _ _ ?_);clear hK15;refine CW.ret ⟨_,rfl,?_⟩;exact⟨_,by rw [hq0],by rw [if_pos hq0];exact hO,fun k hk=>by have:=hfu k hk;omega,hE⟩
end Go.Proofs.YtmehkigmnpjcjaaGreatDoor
namespace Go.Pl
open Go.Fw
def EY(l:List Nd)(i:Nat):aD:=((l[i]?).map Nd.id).getD aD.zero
def iM(l:List Nd)(ids:List aD):List aD:=iy ((Fo l ids).map (EY l))
end Go.Pl
namespace Go.Proofs.YtmehkigmnpjcjaaGreatDoor
open Go.RowKit Go.Fw Go.Pl Go.Sort Go.Proofs.Tryz
end Go.Proofs.YtmehkigmnpjcjaaGreatDoor
namespace Go.Pl
open Go.Fw
variable {l:List Nd}
theorem qa{i:Nat}{n:Nd}(h:l[i]? =some n):(bz l)[i]? =some n.id:=by simp [bz,h]
theorem Hz(h:(bL l).2=0){i:Nat}{n:Nd}(hi:l[i]? =some n):n.id∉bz (l.take i):=(sZ (Df h hi)).2.2.1
theorem Eu{j i:Nat}{n:Nd}(hj:l[j]? =some n)(h:j<i):n.id∈bz (l.take i):=
 List.mem_map.2 ⟨n,List.mem_of_getElem? (i:=j) (by rw [List.getElem?_take,if_pos h];exact hj),rfl⟩
theorem fM(h:(bL l).2=0){i:Nat}{n:Nd}(hi:l[i]? =some n):jh l n.id=i:=by
 have h1:=o8 (ids:=bz l) (i:=i) (qa hi) (fun j hj he=>by
  obtain⟨m,hm,hme⟩:∃m,l[j]? =some m∧m.id=n.id:=by simpa [bz]using he
  exact Hz h hi (hme▸Eu hm hj))
 rw [gw,if_pos (List.mem_of_getElem? (qa hi))]at h1;unfold jh;omega
theorem vr{d:aD}(h:d∈bz l):∃n,l[jh l d]? =some n∧n.id=d:=by
 have hlt:=ic h;refine⟨l[jh l d],List.getElem?_eq_getElem hlt,?_⟩;have h1:(bz l)[(bz l).idxOf d]'(List.idxOf_lt_length_iff.2 h)=d:=List.getElem_idxOf (List.idxOf_lt_length_iff.2 h);simp only [bz,List.getElem_map]at h1;exact h1
theorem rp{a b:aD}(ha:a∈bz l)(hb:b∈bz l)(h:jh l a=jh l b):a=b:=by
 obtain⟨n,hn,rfl⟩:=vr ha;obtain⟨m,hm,rfl⟩:=vr hb;rw [h,hm]at hn;cases hn;rfl
theorem j4{i:Nat}{n:Nd}(h:l[i]? =some n):n.id∈bz l:=List.mem_of_getElem? (qa h)
theorem jv(h:(bL l).2=0){i:Nat}{n:Nd}(hi:l[i]? =some n){p:aD}(hp:p∈n.ps):p∈bz l∧jh l p<i:=by
 obtain⟨m,hm,rfl⟩:=List.mem_map.1 (Ad h hi hp);obtain⟨j,hj⟩:=List.mem_iff_getElem?.1 hm;rw [List.getElem?_take]at hj;split at hj
 ·exact⟨j4 hj,by rw [fM h hj];assumption⟩
 ·cases hj
inductive Ab(l:List Nd):aD→aD→Prop
 |refl (d:aD):Ab l d d
 |step {n:Nd} {p d:aD}:n∈l→p∈n.ps→Ab l p d→Ab l n.id d
theorem Ab.trans{a b c:aD}(h:Ab l a b)(k:Ab l b c):Ab l a c:=by
 induction h with
 |refl d=>exact k
 |step hn hp _ ih=>exact .step hn hp (ih k)
theorem Ab.inv{a d:aD}(h:Ab l a d):a=d∨∃n∈l,n.id=a∧∃p∈n.ps,Ab l p d:=by
 cases h with
 |refl d=>exact .inl rfl
 |step hn hp h=>exact .inr ⟨_,hn,rfl,_,hp,h⟩
theorem Jb(h:(bL l).2=0){n:Nd}{i:Nat}{m:Nd}(hn:n∈l)(hm:l[i]? =some m)(e:n.id=m.id):n=m:=by
 obtain⟨j,hj⟩:=List.mem_iff_getElem?.1 hn;have h1:=fM h hj;rw [e,fM h hm]at h1;subst h1;rw [hm]at hj;cases hj;rfl
theorem Ab.E5(h:(bL l).2=0){i:Nat}{n:Nd}(hi:l[i]? =some n){d:aD}(k:Ab l n.id d):n.id=d∨∃p∈n.ps,Ab l p d:=by
 rcases k.inv with e|⟨m,hm,e,p,hp,hpd⟩
 ·exact .inl e
 ·rw [Jb h hm hi e]at hp;exact .inr ⟨p,hp,hpd⟩
theorem Ab.mem(h:(bL l).2=0){a d:aD}(k:Ab l a d):a∈bz l→d∈bz l:=by
 induction k with
 |refl d=>exact id
 |step hn hp _ ih=>
  intro _;obtain⟨j,hj⟩:=List.mem_iff_getElem?.1 hn;exact ih (jv h hj hp).1
theorem Ab.ix(h:(bL l).2=0){a d:aD}(k:Ab l a d):a∈bz l→jh l d≤jh l a∧(jh l d=jh l a→a=d):=by
 induction k with
 |refl d=>exact fun _=>⟨Nat.le_refl _,fun _=>rfl⟩
 |step hn hp _ ih=>
  intro _;obtain⟨j,hj⟩:=List.mem_iff_getElem?.1 hn;have h1:=jv h hj hp;have h2:=ih h1.1;rw [fM h hj];exact⟨by omega,fun e=>by omega⟩
theorem iB{S:List Bool}{d:aD}:cK S l d=true↔S[jh l d]? =some true:=by
 unfold cK;cases S[jh l d]? with
 |none=>simp
 |some b=>simp
theorem oi:∀{ds:List aD} {S:List Bool} {i:Nat},(bP l S ds)[i]? =some true↔S[i]? =some true∨(i<S.length∧∃d∈ds,jh l d=i)
 | [],S,i=>by simp [bP]
 |d::ds,S,i=>by
  have h:=oi (ds:=ds) (S:=S.set (jh l d) true) (i:=i);rw [show bP l S (d::ds)=bP l (S.set (jh l d) true) ds from rfl,h,List.length_set];by_cases e:jh l d=i
  ·subst e;by_cases hl:jh l d<S.length
   ·simp [List.getElem?_set,hl]
   ·have:S[jh l d]? =none:=List.getElem?_eq_none ai;simp [List.getElem?_set,hl,this]
  ·simp [List.getElem?_set,e]
theorem oK{ds:List aD}{S:List Bool}{d:aD}(hl:S.length=l.length)(hd:d∈bz l)(hds:∀p∈ds,p∈bz l):cK (bP l S ds) l d=true↔cK S l d=true∨d∈ds:=by
 rw [iB,iB,oi,hl];have:=ic hd;constructor
 ·rintro(h|⟨_,p,hp,e⟩)
  ·exact .inl h
  ·exact .inr (rp (hds p hp) hd e▸hp)
 ·rintro(h|h)
  ·exact .inl h
  ·exact .inr ⟨this,d,h,rfl⟩
theorem AL{k:Nat}{d:aD}:cK (List.replicate k false) l d=false:=by
 unfold cK;rw [List.getElem?_replicate];split<;>rfl
theorem nd{ids:List aD}{d:aD}(hd:d∈bz l)(hin:∀p∈ids,p∈bz l):cK (kv l ids) l d=true↔d∈ids:=by
 rw [kv,oK aL hd hin,AL];simp
theorem rL(h:(bL l).2=0){S:List Bool}(hl:S.length=l.length){k:Nat}{n:Nd}(hk:l[k]? =some n){d:aD}(hd:d∈bz l):cK (yt l S k) l d=true↔cK S l d=true∨(cK S l n.id=true∧d∈n.ps):=by
 by_cases hs:S[k]? =some true
 ·rw [wk hk hs,oK hl hd (fun p hp=>(jv h hk hp).1)];have:cK S l n.id=true:=by rw [iB,fM h hk];exact hs
  simp [this]
 ·rw [vX hs];have:¬cK S l n.id=true:=by rw [iB,fM h hk];exact hs
  simp [this]
theorem u9(h:(bL l).2=0):∀{k:Nat} {S:List Bool},k≤l.length→S.length=l.length→∀{d:aD},d∈bz l→(cK (iK l k S) l d=true↔cK S l d=true∨∃a∈bz l,jh l a<k∧cK S l a=true∧Ab l a d)
 |0,S,_,_,d,_=>by simp [iK]
 |k+1,S,hk,hl,d,hd=>by
  obtain⟨n,hn⟩:∃n,l[k]? =some n:=⟨_,List.getElem?_eq_getElem ai⟩;have hni:=j4 hn;have hnx:=fM h hn;rw [iK,u9 h ai (by rw [sT];exact hl) hd,rL h hl hn hd];constructor
  ·rintro((h1|⟨h1,h2⟩)|⟨a,ha,hak,hab,had⟩)
   ·exact .inl h1
   ·exact .inr ⟨n.id,hni,by omega,h1,.step (List.mem_of_getElem? hn) h2 (.refl _)⟩
   ·rcases(rL h hl hn ha).1 hab with h1|⟨h1,h2⟩
    ·exact .inr ⟨a,ha,by omega,h1,had⟩
    ·exact .inr ⟨n.id,hni,by omega,h1,.step (List.mem_of_getElem? hn) h2 had⟩
  ·rintro(h1|⟨a,ha,hak,hab,had⟩)
   ·exact .inl (.inl h1)
   ·by_cases hx:jh l a<k
    ·exact .inr ⟨a,ha,hx,(rL h hl hn ha).2 (.inl hab),had⟩
    ·have e:a=n.id:=rp ha hni ai;subst e;rcases had.E5 h hn with e|⟨p,hp,hpd⟩
     ·exact .inl (.inl (e▸hab))
     ·have hpi:=jv h hn hp;exact .inr ⟨p,hpi.1,hpi.2,(rL h hl hn hpi.1).2 (.inr ⟨hab,hp⟩),hpd⟩
abbrev cO(l:List Nd)(ids:List aD)(d:aD):Prop:=∃a∈ids,Ab l a d
theorem fE(h:(bL l).2=0){ids:List aD}(hin:∀p∈ids,p∈bz l){d:aD}(hd:d∈bz l):cK (fJ l ids) l d=true↔cO l ids d:=by
 rw [fJ,u9 h (Nat.le_refl _) jH hd];constructor
 ·rintro(h1|⟨a,ha,_,hab,had⟩)
  ·exact⟨d,(nd hd hin).1 h1,.refl _⟩
  ·exact⟨a,(nd ha hin).1 hab,had⟩
 ·rintro⟨a,ha,had⟩;exact .inr ⟨a,hin a ha,ic (hin a ha),(nd (hin a ha) hin).2 ha,had⟩
theorem pR:∀{k:Nat} {S:List Bool},(iK l k S).length=S.length
 |0,_=>rfl
 |k+1,S=>by rw [iK,pR,sT]
theorem iA{ids:List aD}:(fJ l ids).length=l.length:=by rw [fJ,pR,jH]
theorem wX(h:(bL l).2=0){S:List Bool}{k i:Nat}(hi:k≤i):((yt l S k)[i]? =some true)↔(S[i]? =some true):=by
 unfold yt;split
 ·rename_i n hn;split
  ·rw [oi];constructor
   ·rintro(h1|⟨_,p,hp,e⟩)
    ·exact h1
    ·have:=(jv h hn hp).2;omega
   ·exact .inl
  ·rfl
 ·rfl
theorem s5(h:(bL l).2=0):∀{k:Nat} {S:List Bool} {i:Nat},k≤i→(((iK l k S)[i]? =some true)↔(S[i]? =some true))
 |0,_,_,_=>Iff.rfl
 |k+1,S,i,hi=>by rw [iK,s5 h ai,wX h ai]
theorem oJ(h:(bL l).2=0):∀{k:Nat} {S:List Bool} {x:Nat},x∈ks l k S↔x<k∧(iK l k S)[x]? =some true
 |0,S,x=>by simp [ks]
 |k+1,S,x=>by
  have ih:=oJ h (k:=k) (S:=yt l S k) (x:=x);have hk:((iK l k (yt l S k))[k]? =some true)↔(S[k]? =some true):=by rw [s5 h (Nat.le_refl _),wX h (Nat.le_refl _)]
  rw [ks,iK];split
  ·rename_i hs;rw [List.mem_cons,ih];constructor
   ·rintro(rfl|⟨h1,h2⟩)
    ·exact⟨by omega,hk.2 hs⟩
    ·exact⟨by omega,h2⟩
   ·rintro⟨h1,h2⟩;by_cases e:x=k
    ·exact .inl e
    ·exact .inr ⟨by omega,h2⟩
  ·rename_i hs;rw [vX hs]at ih hk⊢;rw [ih];constructor
   ·rintro⟨h1,h2⟩;exact⟨by omega,h2⟩
   ·rintro⟨h1,h2⟩;refine⟨?_,h2⟩;by_cases e:x=k
    ·subst e;exact absurd (hk.1 h2) hs
    ·omega
theorem kY:∀{k:Nat} {S:List Bool},(ks l k S).Pairwise fun a b=>b<a
 |0,_=>by simp [ks]
 |k+1,S=>by
  rw [ks];split
  ·exact List.pairwise_cons.2 ⟨fun x hx=>lk hx,kY⟩
  ·exact kY
theorem rP{i:Nat}{n:Nd}(h:l[i]? =some n):EY l i=n.id:=by simp [EY,h]
theorem GH{d:aD}(h:d∈bz l):EY l (jh l d)=d:=by
 obtain⟨n,hn,e⟩:=vr h;rw [rP hn,e]
theorem xy(h:(bL l).2=0){ids:List aD}:((Fo l ids).map (EY l)).Nodup:=by
 unfold List.Nodup;rw [List.pairwise_map];refine List.Pairwise.imp_of_mem ?_ (kY (l:=l) (k:=l.length) (S:=kv l ids));intro a b ha hb hlt e;obtain⟨n,hn⟩:∃n,l[a]? =some n:=⟨_,List.getElem?_eq_getElem (lk ha)⟩;obtain⟨m,hm⟩:∃m,l[b]? =some m:=⟨_,List.getElem?_eq_getElem (lk hb)⟩;rw [rP hn,rP hm]at e;have h1:=fM h hn;have h2:=fM h hm;rw [e]at h1;omega
theorem ET(h:(bL l).2=0){ids:List aD}:Up (iM l ids):=rZ (xy h)
theorem m4(h:(bL l).2=0){ids:List aD}(hin:∀p∈ids,p∈bz l){d:aD}:d∈iM l ids↔cO l ids d:=by
 rw [iM,q7,List.mem_map];constructor
 ·rintro⟨i,hi,rfl⟩;obtain⟨h1,h2⟩:=(oJ h).1 hi;obtain⟨n,hn⟩:∃n,l[i]? =some n:=⟨_,List.getElem?_eq_getElem h1⟩;rw [rP hn];refine(fE h hin (j4 hn)).1 ?_;rw [iB,fM h hn];exact h2
 ·rintro⟨a,ha,had⟩;have hd:=had.mem h (hin a ha);refine⟨jh l d,(oJ h).2 ⟨ic hd,?_⟩,GH hd⟩;exact iB.1 ((fE h hin hd).2 ⟨a,ha,had⟩)
theorem m0(h:(bL l).2=0){ids:List aD}(hin:∀p∈ids,p∈bz l){d:aD}(hu:cO l ids d):d∈bz l:=let⟨a,ha,had⟩:=hu;had.mem h (hin a ha)
theorem s7(h:(bL l).2=0){In:List Bool}:∀{k:Nat} {U:List Bool} {out:List aD},k≤l.length→U.length=l.length→∀{d:aD},(d∈iZ l In k U out↔d∈out∨(d∈bz l∧jh l d<k∧cK In l d=true∧¬cK U l d=true∧∀e∈bz l,jh l e<k→(cK In l e=true∨cK U l e=true)→Ab l e d→e=d))
 |0,U,out,_,_,d=>by simp [iZ]
 |k+1,U,out,hk,hl,d=>by
  obtain⟨n,hn⟩:∃n,l[k]? =some n:=⟨_,List.getElem?_eq_getElem ai⟩;have hni:=j4 hn;have hnx:=fM h hn;have bI:In[k]? =some true↔cK In l n.id=true:=by rw [iB,hnx]
  have bU:U[k]? =some true↔cK U l n.id=true:=by rw [iB,hnx]
  have hU:∀{x:aD},x∈bz l→(cK (if In[k]? =some true∨U[k]? =some true then bP l U n.ps else U) l x=true↔cK U l x=true∨((cK In l n.id=true∨cK U l n.id=true)∧x∈n.ps)):=by
   intro x hx;by_cases hc:In[k]? =some true∨U[k]? =some true
   ·have hc':cK In l n.id=true∨cK U l n.id=true:=hc.imp bI.1 bU.1;rw [if_pos hc,oK hl hx (fun p hp=>(jv h hn hp).1)];exact⟨fun x=>x.imp id fun y=>⟨hc',y⟩,fun x=>x.imp id fun y=>y.2⟩
   ·have hc':¬(cK In l n.id=true∨cK U l n.id=true):=fun x=>hc (x.imp bI.2 bU.2);rw [if_neg hc];exact⟨.inl,fun x=>x.elim id fun y=>absurd y.1 hc'⟩
  rw [qB hn,s7 h ai (by split<;>simp [cE,hl])];have hO:∀{x:aD},(x∈(if In[k]? =some true∧¬U[k]? =some true then out++[n.id]else out))↔x∈out∨(x=n.id∧cK In l n.id=true∧¬cK U l n.id=true):=by
   intro x;by_cases hc:In[k]? =some true∧¬U[k]? =some true
   ·rw [if_pos hc,List.mem_append,List.mem_singleton];exact⟨fun y=>y.imp id fun z=>⟨z,bI.1 hc.1,fun q=>hc.2 (bU.2 q)⟩,fun y=>y.imp id fun z=>z.1⟩
   ·rw [if_neg hc];exact⟨.inl,fun y=>y.elim id fun z=>absurd ⟨bI.2 z.2.1,fun q=>z.2.2 (bU.1 q)⟩ hc⟩
  rw [hO];constructor
  ·rintro((h1|⟨rfl,h2,h3⟩)|⟨hd,hdk,hdI,hdU,hall⟩)
   ·exact .inl h1
   ·refine .inr ⟨hni,by omega,h2,h3,fun e he hek _ hab=>?_⟩;have:=hab.ix h he;exact this.2 ai
   ·have hdU':¬(cK U l d=true∨((cK In l n.id=true∨cK U l n.id=true)∧d∈n.ps)):=fun x=>hdU ((hU hd).2 x);refine .inr ⟨hd,by omega,hdI,fun x=>hdU' (.inl x),fun e he hek hc hab=>?_⟩;by_cases hx:jh l e<k
    ·refine hall e he hx ?_ hab;rcases hc with hc|hc
     ·exact .inl hc
     ·exact .inr ((hU he).2 (.inl hc))
    ·have e1:e=n.id:=rp he hni ai;subst e1;rcases hab.E5 h hn with e2|⟨p,hp,hpd⟩
     ·exact e2
     ·exfalso;have hpi:=jv h hn hp;have e3:=hall p hpi.1 hpi.2 (.inr ((hU hpi.1).2 (.inr ⟨hc,hp⟩))) hpd;subst e3;exact hdU' (.inr ⟨hc,hp⟩)
  ·rintro(h1|⟨hd,hdk,hdI,hdU,hall⟩)
   ·exact .inl (.inl h1)
   ·by_cases hx:jh l d<k
    ·have hne:¬d=n.id:=fun e=>by rw [e,hnx]at hx;omega
     refine .inr ⟨hd,hx,hdI,fun hb=>?_,fun e he hek hc hab=>?_⟩
     ·rcases(hU hd).1 hb with hb|⟨hc,hp⟩
      ·exact hdU hb
      ·exact hne (hall n.id hni ai hc (.step (List.mem_of_getElem? hn) hp (.refl _))).symm
     ·rcases hc with hc|hc
      ·exact hall e he ai (.inl hc) hab
      ·rcases(hU he).1 hc with hc|⟨hc,hp⟩
       ·exact hall e he ai (.inr hc) hab
       ·exact absurd (hall n.id hni ai hc (.step (List.mem_of_getElem? hn) hp hab)).symm hne
    ·have e1:d=n.id:=rp hd hni ai;subst e1;exact .inl (.inr ⟨rfl,hdI,hdU⟩)
theorem oT(h:(bL l).2=0){In:List Bool}:∀{k:Nat} {U:List Bool} {out:List aD},k≤l.length→out.Nodup→(∀x∈out,k≤jh l x)→(iZ l In k U out).Nodup
 |0,U,out,_,hn,_=>by rw [iZ];exact hn
 |k+1,U,out,hk,ho,hx=>by
  obtain⟨n,hn⟩:∃n,l[k]? =some n:=⟨_,List.getElem?_eq_getElem ai⟩;have hnx:=fM h hn;rw [qB hn];refine oT h ai ?_ ?_
  ·split
   ·refine List.nodup_append.2 ⟨ho,by simp,fun a ha b hb=>?_⟩;simp at hb;subst hb;intro e;subst e;have:=hx _ ha;omega
   ·exact ho
  ·intro x hxm;split at hxm
   ·rcases List.mem_append.1 hxm with h1|h1
    ·have:=hx x h1;omega
    ·simp at h1;subst h1;omega
   ·have:=hx x hxm;omega
theorem E3(h:(bL l).2=0){In:List Bool}:Up (kU l In):=rZ (oT h (Nat.le_refl _) List.nodup_nil (fun x hx=>by cases hx))
theorem CK(h:(bL l).2=0){In:List Bool}{d:aD}:d∈kU l In↔d∈bz l∧cK In l d=true∧∀e∈bz l,cK In l e=true→Ab l e d→e=d:=by
 rw [kU,q7,s7 h (Nat.le_refl _) aL];simp only [AL,List.not_mem_nil,false_or,or_false,Bool.false_eq_true,not_false_eq_true,true_and];constructor
 ·rintro⟨h1,_,h2,h3⟩;exact⟨h1,h2,fun e he hb hab=>h3 e he (ic he) hb hab⟩
 ·rintro⟨h1,h2,h3⟩;exact⟨h1,ic h1,h2,fun e he _ hb hab=>h3 e he hb hab⟩
structure Fk(l:List Nd)(X:aD→Prop)(d:aD):Prop where
 mem:X d
 max:∀e,X e→Ab l e d→e=d
theorem D0(h:(bL l).2=0){In:List Bool}{X:aD→Prop}(hX:∀d,X d→d∈bz l)(hb:∀d∈bz l,cK In l d=true↔X d){d:aD}:d∈kU l In↔Fk l X d:=by
 rw [CK h];constructor
 ·rintro⟨h1,h2,h3⟩;exact⟨(hb d h1).1 h2,fun e he hab=>h3 e (hX e he) ((hb e (hX e he)).2 he) hab⟩
 ·rintro⟨h1,h2⟩;have hd:=hX d h1;exact⟨hd,(hb d hd).2 h1,fun e he hbe hab=>h2 e ((hb e he).1 hbe) hab⟩
end Go.Pl
namespace Go.Pl
open Go.Fw
variable {l:List Nd}
theorem pQ:∀{a b:List aD},a.Nodup→(∀x∈a,x∈b)→a.length≤b.length
 | [],_,_,_=>Nat.zero_le _
 |x::a,b,h,hs=>by
  have h':=List.nodup_cons.1 h;have hx:=hs x aL;have ih:=pQ (a:=a) (b:=b.erase x) h'.2 (fun y hy=>(List.mem_erase_of_ne (fun(e:y=x)=>h'.1 (by rw [←e];exact hy))).2 (hs y (by simp [hy])));rw [List.length_erase_of_mem hx]at ih;have:=List.length_pos_of_mem hx;simp only [List.length_cons];omega
def Ci(l:List Nd)(d:aD):List aD:=((l[jh l d]?).map Nd.ps).getD []
theorem Gs(h:(bL l).2=0){i:Nat}{n:Nd}(hn:l[i]? =some n):Ci l n.id=n.ps:=by
 rw [Ci,fM h hn,hn];rfl
theorem lx(h:(bL l).2=0){n:Nd}(hn:n∈l):Ci l n.id=n.ps:=by
 obtain⟨j,hj⟩:=List.mem_iff_getElem?.1 hn;exact Gs h hj
structure FU(l:List Nd)(all out:List aD):Prop where
 once:out.Nodup
 isin:∀d∈out,d∈all
 par:∀i d,out[i]? =some d→∀p∈Ci l d,p∈out.take i
theorem FU.nil{all:List aD}:FU l all []:=⟨List.nodup_nil,(fun d h=>by cases h),fun i d h=>by simp at h⟩
theorem FU.le{all out:List aD}(h:FU l all out):out.length≤all.length:=pQ h.once h.isin
end Go.Pl
namespace Go.Pl
open Go.Fw
def kC(p:Nat→Bool)(all:List aD):Nat→List aD
 |0=>[]
 |i+1=>match all[i]? with
  |some d=>if p i=true then kC p all i++[d]else kC p all i
  |none=>kC p all i
section
variable {p:Nat→Bool} {all:List aD}
theorem Ax{i:Nat}{d:aD}(h:all[i]? =some d):kC p all (i+1)=if p i=true then kC p all i++[d]else kC p all i:=by rw [kC,h]
theorem sO:∀{k:Nat},(kC p all k).length≤k
 |0=>Nat.le_refl _
 |k+1=>by
  have:=sO (k:=k);rw [kC];split
  ·split<;>(try rw [List.length_append,List.length_singleton])<;>omega
  ·omega
theorem tq{d:aD}:∀{k:Nat},d∈kC p all k↔∃i,i<k∧all[i]? =some d∧p i=true
 |0=>by simp [kC]
 |k+1=>by
  have ih:=tq (d:=d) (k:=k);have hs:(∃i,i<k+1∧all[i]? =some d∧p i=true)↔(∃i,i<k∧all[i]? =some d∧p i=true)∨(all[k]? =some d∧p k=true):=by
   constructor
   ·rintro⟨i,hi,h1,h2⟩;by_cases e:i=k
    ·subst e;exact .inr ⟨h1,h2⟩
    ·exact .inl ⟨i,by omega,h1,h2⟩
   ·rintro(⟨i,hi,h1,h2⟩|⟨h1,h2⟩)
    ·exact⟨i,by omega,h1,h2⟩
    ·exact⟨k,by omega,h1,h2⟩
  rw [hs,kC];cases hk:all[k]? with
  |none=>simpa using ih
  |some x=>
   simp only;by_cases hp:p k=true
   ·rw [if_pos hp,List.mem_append,ih,List.mem_singleton];exact or_congr Iff.rfl ⟨fun e=>⟨by rw [e],hp⟩,fun e=>(Option.some.inj e.1).symm⟩
   ·rw [if_neg hp,ih];simp [hp]
theorem ym:∀{k:Nat},(kC p all k).Sublist (all.take k)
 |0=>by simp [kC]
 |k+1=>by
  have ih:=ym (k:=k);rw [kC];cases hk:all[k]? with
  |none=>
   have hl:all.length≤k:=List.getElem?_eq_none_iff.1 hk;rw [List.take_of_length_le ai]at ih⊢;exact ih
  |some x=>
   simp only;rw [take_succ hk];split
   ·exact ih.append (List.Sublist.refl _)
   ·exact ih.trans (List.sublist_append_left _ _)
theorem F7{k:Nat}(h:Up all):Up (kC p all k):=List.Pairwise.sublist (ym.trans (List.take_sublist k all)) h
end
theorem E0{l:List Nd}{d:aD}(h:d∈bz l):gw (bz l) d=((jh l d:Nat):Int):=by rw [gw,if_pos h];rfl
abbrev pB(S:List Bool)(i:Nat):Bool:=decide (S[i]? =some true)
theorem BX{l:List Nd}(h:(bL l).2=0){ids:List aD}(hin:∀p∈ids,p∈bz l):nz (kC (pB (fJ l ids)) (bz l) l.length)=iM l ids:=
 Dd (yL _ _ List.Pairwise.nil) (ET h) fun d=>by
  rw [nz,wv,tq,m4 h hin];constructor
  ·rintro(⟨i,hi,h1,h2⟩|h1)
   ·obtain⟨n,hn⟩:∃n,l[i]? =some n:=⟨_,List.getElem?_eq_getElem hi⟩;rw [qa hn]at h1;cases h1
    refine(fE h hin (j4 hn)).1 (iB.2 ?_);rw [fM h hn];exact of_decide_eq_true h2
   ·cases h1
  ·intro hu;have hd:=m0 h hin hu;obtain⟨n,hn,rfl⟩:=vr hd;exact .inl ⟨jh l n.id,ic hd,qa hn,decide_eq_true (iB.1 ((fE h hin hd).2 hu))⟩
def Im(l:List Nd)(all:List aD)(k i:Nat):Bool:= !decide (i=k)&&cK (fJ l ((all.drop k).take 1)) l (all[i]?.getD aD.zero)
def wo(l:List Nd)(all:List aD)(k:Nat)(U:List Bool):Nat→List Bool
 |0=>U
 |j+1=>(wo l all k U j).set j ((wo l all k U j)[j]?.getD false||Im l all k j)
def yu(l:List Nd)(all:List aD):Nat→List Bool
 |0=>List.replicate all.length false
 |k+1=>wo l all k (yu l all k) all.length
theorem l5{l:List Nd}{all:List aD}{k:Nat}{U:List Bool}:∀{j:Nat},(wo l all k U j).length=U.length
 |0=>rfl
 |j+1=>by rw [wo,List.length_set,l5]
theorem lL{l:List Nd}{all:List aD}:∀{k:Nat},(yu l all k).length=all.length
 |0=>by simp [yu]
 |k+1=>by rw [yu,l5,lL]
theorem vC{l:List Nd}{all:List aD}{k:Nat}{U:List Bool}:∀{j:Nat},j≤U.length→∀{i:Nat},((wo l all k U j)[i]? =some true↔U[i]? =some true∨(i<j∧Im l all k i=true))
 |0,_,i=>by simp [wo]
 |j+1,hj,i=>by
  rw [wo,List.getElem?_set];by_cases e:j=i
  ·subst e;have hlt:j<(wo l all k U j).length:=by rw [l5];omega
   have ih:=vC (l:=l) (all:=all) (k:=k) (U:=U) (j:=j) ai (i:=j);obtain⟨c,hc⟩:∃c,(wo l all k U j)[j]? =some c:=⟨_,List.getElem?_eq_getElem hlt⟩;rw [hc]at ih;rw [if_pos rfl,if_pos hlt,hc];simp only [Option.some.injEq,Option.getD_some,Bool.or_eq_true]at ih⊢;rw [ih];constructor
   ·rintro((h|⟨h,_⟩)|h)
    ·exact .inl h
    ·omega
    ·exact .inr ⟨by omega,h⟩
   ·rintro(h|⟨_,h⟩)
    ·exact .inl (.inl h)
    ·exact .inr h
  ·rw [if_neg e,vC ai];constructor
   ·rintro(h|⟨h1,h2⟩)
    ·exact .inl h
    ·exact .inr ⟨by omega,h2⟩
   ·rintro(h|⟨h1,h2⟩)
    ·exact .inl h
    ·exact .inr ⟨by omega,h2⟩
theorem vq{l:List Nd}{all:List aD}:∀{k:Nat} {i:Nat},i<all.length→((yu l all k)[i]? =some true↔∃j,j<k∧Im l all j i=true)
 |0,i,hi=>by simp [yu,List.getElem?_replicate]
 |k+1,i,hi=>by
  rw [yu,vC (by rw [lL];exact Nat.le_refl _),vq hi];constructor
  ·rintro(⟨j,hj,h⟩|⟨_,h⟩)
   ·exact⟨j,by omega,h⟩
   ·exact⟨k,by omega,h⟩
  ·rintro⟨j,hj,h⟩;by_cases e:j=k
   ·subst e;exact .inr ⟨hi,h⟩
   ·exact .inl ⟨j,by omega,h⟩
theorem Aa{all:List aD}{k:Nat}{d:aD}(h:all[k]? =some d):(all.drop k).take 1=[d]:=by
 obtain⟨hlt,hd⟩:=List.getElem?_eq_some_iff.1 h;rw [List.drop_eq_getElem_cons hlt,hd];rfl
theorem Ba{l:List Nd}(h:(bL l).2=0){all:List aD}(hall:∀d∈all,d∈bz l){k i:Nat}{a d:aD}(hk:all[k]? =some a)(hi:all[i]? =some d):Im l all k i=true↔i≠k∧Ab l a d:=by
 rw [Im,Aa hk,hi,Option.getD_some,Bool.and_eq_true,fE h (fun p hp=>by simp at hp;subst hp;exact hall _ (List.mem_of_getElem? hk)) (hall d (List.mem_of_getElem? hi))];simp [cO]
def p6(l:List Nd)(all:List aD):List aD:=kC (fun i=> !pB (yu l all all.length) i) all all.length
theorem IW{all:List aD}(h:Up all){i k:Nat}{d:aD}(hi:all[i]? =some d)(hk:all[k]? =some d):i=k:=by
 have hn:all.Nodup:=h.imp fun{a b} hab e=>by subst e;rw [jr]at hab;cases hab
 have h1:=(List.getElem?_eq_some_iff.1 hi).1;exact(List.getElem?_inj h1 hn).1 (hi.trans hk.symm)
theorem yy{l:List Nd}(h:(bL l).2=0){all:List aD}(hu:Up all)(hall:∀d∈all,d∈bz l){d:aD}:d∈p6 l all↔Fk l (·∈all) d:=by
 rw [p6,tq];constructor
 ·rintro⟨i,hi,h1,h2⟩;refine⟨List.mem_of_getElem? h1,fun e he hab=>?_⟩;obtain⟨k,hk⟩:=List.mem_iff_getElem?.1 he;have hkl:=(List.getElem?_eq_some_iff.1 hk).1;by_cases ek:i=k
  ·subst ek;rw [hk]at h1;cases h1;rfl
  ·exfalso;simp only [Bool.not_eq_true',pB,decide_eq_false_iff_not]at h2;exact h2 ((vq hi).2 ⟨k,hkl,(Ba h hall hk h1).2 ⟨ek,hab⟩⟩)
 ·rintro⟨h1,h2⟩;obtain⟨i,hi⟩:=List.mem_iff_getElem?.1 h1;have hil:=(List.getElem?_eq_some_iff.1 hi).1;refine⟨i,hil,hi,?_⟩;simp only [Bool.not_eq_true',pB,decide_eq_false_iff_not];intro hc;obtain⟨k,hkl,hb⟩:=(vq hil).1 hc;obtain⟨a,hk⟩:∃a,all[k]? =some a:=⟨_,List.getElem?_eq_getElem hkl⟩;obtain⟨h3,h4⟩:=(Ba h hall hk hi).1 hb;have e:=h2 a (List.mem_of_getElem? hk) h4;subst e;exact h3 (IW hu hi hk)
theorem Cj{l:List Nd}(h:(bL l).2=0){all:List aD}(hu:Up all)(hall:∀d∈all,d∈bz l){In:List Bool}(hb:∀d∈bz l,cK In l d=true↔d∈all):p6 l all=kU l In:=
 Dd (F7 hu) (E3 h) fun d=>by rw [yy h hu hall,D0 h hall hb]
end Go.Pl
namespace Go.Proofs.YtmehkigmnpjcjaaGreatDoor
open Go.RowKit Go.Fw Go.Pl Go.Sort Go.Proofs.Tryz
theorem mO(u:Value)(l:List gj)(d:aD)(w:World)(hl:oR w u l)(hd:d∈bz (aQ l)):Calls prog 63 #[u,cU d] w (cB fun v w'=>v= .int .i64 ((jh (aQ l) d:Nat):Int)∧Ext w w'):=by
 have:=lB u l d w hl;rwa [E0 hd]at this
set_option maxHeartbeats 1000000 in
theorem r6(u v0:Value)(l:List gj)(ids:List aD)(w:World)(hl:oR w u l)(hok:(bL (aQ l)).2=0)(hd:Sl w aN 32 v0 ids)(hin:∀d∈ids,d∈bz (aQ l)):Calls prog 65 #[u,v0] w (cB fun v w'=>∃b,v= .slice (some ⟨b,0,none⟩) l.length l.length∧w.heap.size≤b∧aK w' b oC (b8 (fJ (aQ l) ids))∧Ext w w'):=by
 have hl0:=hl;obtain⟨A,c,rfl,hmc,hcm⟩:=hl.sl.lens;unfold maxLen at hcm;have hd0:=hd;obtain⟨A1,c1,rfl,hdc,hdx⟩:=hd.lens;unfold maxLen at hdx;have hnl:(aQ l).length=l.length:=by simp
 have hln:=lT hok;obtain⟨bi,hbi,hbz,hbs,hbb⟩:=iS;refine ar 62 [4] [(0,.slice A l.length c),(1,.slice A1 ids.length c1)] func65 rfl rfl rfl aL cz ?_;have hE:Ext w w:=aE.refl;refine CW.sr fun K1 hK1=>WL.a rfl<|WL.nil (hK1 _ _ ?_);clear hK1;refine CW.sr fun K2 hK2=>WL.m rfl<|WL.v (Y.aq underlying38 rfl)<|WL.st (St.tw underlying79 hbi hbz hbs hbb rfl rfl ai) aw fun v11 w1 hR1=>?_;obtain⟨b,rfl,hb,hIn,hx1⟩:=hR1;have hz1:=hx1.size;have hE:=hE.ae hx1;have hltb:=hIn.lt;refine WL.a rfl<|WL.nil (hK2 _ _ ?_);clear hK2;refine CW.seq fun K3 hK3=>CW.sr fun K4 hK4=>WL.a rfl<|WL.nil (hK4 _ _ ?_);clear hK4;refine CW.block ?_;refine CW.loop (X:=Nat) (fun x=>[(0,.slice A l.length c),(1,.slice A1 ids.length c1),(5,.slice (some ⟨b,0,none⟩) l.length l.length),(6,.int .i64 (x:Int))]) (fun x w0=>x≤ids.length∧aK w0 b oC (b8 (bP (aQ l) (List.replicate l.length false) (ids.take x)))∧Ext w w0) (fun x=>ids.length-x) 0 Fr.ok ⟨Nat.zero_le _,by simpa [bP]using hIn,hE⟩ ?_;intro x w2 hl2;clear hE hIn;obtain⟨hxl,hIn,hE⟩:=hl2;refine CW.seq fun K5 hK5=>CW.sr fun K6 hK6=>WL.m rfl<|WL.m rfl<|WL.v (Y.aq underlying25 rfl)<|WL.v (Y.lss rfl rfl)<|WL.nil (hK6 _ _ ?_);clear hK6;refine bp ?_ ?_<;>intro ht7
 ·refine CW.skip ?_;refine hK5 _ _ ?_;clear hK5;refine CW.seq fun K8 hK8=>?_;refine CW.block ?_;obtain⟨d,hdi⟩:∃d,ids[x]? =some d:=⟨_,List.getElem?_eq_getElem ai⟩;obtain⟨a1,rfl,hma⟩:=hd0.at hdi;have hdin:=hin d (List.mem_of_getElem? hdi);have hix:=ic hdin;obtain⟨cb,hcb⟩:∃cb,(bP (aQ l) (List.replicate l.length false) (ids.take x))[jh (aQ l) d]? =some cb:=⟨_,List.getElem?_eq_getElem (by rw [cE,List.length_replicate];omega)⟩;refine CW.region<|WL.m rfl<|WL.m rfl<|WL.m rfl<|WL.m rfl<|WL.v (Y.af underlying25 rfl rfl aJ ai)<|WL.v (Y.load underlying42 rfl (hma.ext hE) (aj _) rfl)<|WL.call func63 rfl rfl rfl (mO _ l d _ (hl0.ext hE) hdin) aL ?_;rintro v w3 ⟨rfl,hx3⟩;have hz3:=hx3.size;have hE:=hE.ae hx3;refine WL.v (Y.af underlying79 rfl rfl cQ ai)<|WL.lU rfl rfl rfl eO (hIn.ext hx3) hcb (fun w4 hc4 hB4_=>?_);have hz4:=hc4.size;have hE:=hE.step hc4 (fun k h=>by omega);refine WL.nil (hK8 _ _ ?_);clear hK8;refine CW.region<|WL.m rfl<|WL.v (Y.add rfl rfl bB)<|WL.a rfl<|WL.nil ?_;refine⟨x+1,by show ids.length-(x+1)<ids.length-x;omega,Fr.ok,by show x+1≤ids.length;omega,?_,hE⟩;show aK _ _ _ (b8 (bP _ _ (ids.take (x+1))));rw [take_succ hdi,iN];exact hB4_
 refine CW.exit ?_;refine hK3 _ _ ?_;clear hK3;refine CW.seq fun K9 hK9=>CW.sr fun K10 hK10=>WL.m rfl<|WL.v (Y.aq underlying38 rfl)<|WL.v (Y.sub rfl rfl bB)<|WL.a rfl<|WL.nil (hK10 _ _ ?_);clear hK10;refine CW.block ?_;refine CW.loop (X:=Nat×List Bool) (fun x=>[(0,.slice A l.length c),(5,.slice (some ⟨b,0,none⟩) l.length l.length),(7,.int .i64 ((x.1:Int)-1))]) (fun x w0=>x.1≤l.length∧x.2.length=l.length∧aK w0 b oC (b8 x.2)∧fJ (aQ l) ids=iK (aQ l) x.1 x.2∧Ext w w0) (fun x=>x.1) (l.length,kv (aQ l) ids) Fr.ok ⟨Nat.le_refl _,by rw [jH,hnl],by rw [kv,hnl];rw [List.take_of_length_le ai]at hIn;exact hIn,by rw [fJ,hnl],hE⟩ ?_;intro x w5 hl5;clear hE hIn;obtain⟨k,S⟩:=x;dsimp only at hl5⊢;obtain⟨hkl,hSl,hIn,hmk,hE⟩:=hl5;refine CW.seq fun K11 hK11=>CW.sr fun K12 hK12=>WL.m rfl<|WL.v (Y.geq rfl rfl)<|WL.nil (hK12 _ _ ?_);clear hK12;refine bp ?_ ?_<;>intro ht13
 ·refine CW.skip ?_;refine hK11 _ _ ?_;clear hK11;obtain⟨i,rfl⟩:∃i,k=i+1:=⟨k-1,by omega⟩;rw [show(((i+1:Nat):Int)-1)=(i:Int)by omega];obtain⟨y,hy⟩:∃y,l[i]? =some y:=⟨_,List.getElem?_eq_getElem ai⟩;obtain⟨⟨id,ps⟩,Ay,cy⟩:=y;have hyn:(aQ l)[i]? =some ⟨id,ps⟩:=by simp [hy]
  obtain⟨ci,hci⟩:∃c,S[i]? =some c:=⟨_,List.getElem?_eq_getElem ai⟩;obtain⟨a,rfl,hma⟩:=hl0.sl.at hy;have hps0:=hl0.ps _ (List.mem_of_getElem? hy);dsimp only [gj.pv]at hps0;have hps1:=hps0;obtain⟨_,_,_,he_,_,hcy,hcy2,_⟩:=hps1;cases he_
  unfold maxLen at hcy2;refine CW.seq fun K14 hK14=>?_;refine CW.block<|CW.sr fun K15 hK15=>WL.a rfl<|WL.nil (hK15 _ _ ?_);clear hK15;refine CW.block ?_;refine CW.loop (X:=Nat×List Bool) (fun x=>[(0,.slice (some a) l.length c),(5,.slice (some ⟨b,0,none⟩) l.length l.length),(7,.int .i64 (i:Int)),(8,.int .i64 (x.1:Int))]) (fun x w0=>x.1≤ps.length∧(0<x.1→S[i]? =some true)∧x.2=bP (aQ l) S (ps.take x.1)∧x.2.length=l.length∧x.2[i]? =some ci∧aK w0 b oC (b8 x.2)∧Ext w w0) (fun x=>ps.length-x.1) (0,S) Fr.ok ⟨Nat.zero_le _,(fun h=>absurd h (Nat.lt_irrefl 0)),by simp [bP],hSl,hci,hIn,hE⟩ ?_;intro x w6 hl6;clear hE hIn;obtain⟨x,S2⟩:=x;dsimp only at hl6⊢;obtain⟨hxl,hx0,hS2,hS2l,hS2i,hIn,hE⟩:=hl6;refine CW.seq fun K16 hK16=>?_;refine CW.bS 46 (x<ps.length∧ci=true) ?_ ?_
  ·refine CW.region<|WL.m rfl<|WL.m rfl<|WL.m rfl<|WL.v (Y.af underlying38 rfl rfl cc ai)<|WL.v (Y.fieldAddr dW rfl)<|WL.v (Y.ah underlying25 rfl (hma.ext hE).node1 rfl)<|WL.v (Y.aq underlying25 rfl)<|WL.v (Y.lss rfl rfl)<|WL.m rfl ?_;refine dO ?_ ?_<;>intro hg41
   ·refine WL.g rfl rfl (Y.move rfl)<|WL.g rfl rfl (Y.move rfl)<|WL.g rfl rfl (Y.af underlying79 rfl rfl cQ ai)<|WL.g rfl rfl (Y.ah underlying4 rfl (hIn.mh hS2i) rfl)<|WL.v (Y.pick rfl rfl)<|WL.nil ⟨⟨_,rfl,?_⟩,rfl,Fr.cT⟩;exact aH
   ·refine WL.o rfl rfl<|WL.o rfl rfl<|WL.o rfl rfl<|WL.o rfl rfl<|WL.v (Y.pick rfl rfl)<|WL.nil ⟨⟨_,rfl,?_⟩,rfl,Fr.cT⟩;exact aH
  refine bp ?_ ?_<;>intro ht17
  ·refine CW.skip ?_;refine hK16 _ _ ?_;clear hK16;refine CW.seq fun K18 hK18=>?_;refine CW.block ?_;obtain⟨d,hd⟩:∃d,ps[x]? =some d:=⟨_,List.getElem?_eq_getElem ai⟩;obtain⟨a2,rfl,hma2⟩:=hps0.at hd;have hdi:=(jv hok hyn (List.mem_of_getElem? hd)).1;have hix:=ic hdi;obtain⟨cb2,hcb2⟩:∃cb,S2[jh (aQ l) d]? =some cb:=⟨_,List.getElem?_eq_getElem ai⟩;refine CW.region<|WL.m rfl<|WL.m rfl<|WL.m rfl<|WL.m rfl<|WL.v (Y.af underlying38 rfl rfl cc ai)<|WL.v (Y.fieldAddr dW rfl)<|WL.v (Y.ah underlying25 rfl (hma.ext hE).node1 rfl)<|WL.m rfl<|WL.v (Y.af underlying25 rfl rfl aJ ai)<|WL.v (Y.load underlying42 rfl (hma2.ext hE) (aj _) rfl)<|WL.call func63 rfl rfl rfl (mO _ l d _ (hl0.ext hE) hdi) aL ?_;rintro v w7 ⟨rfl,hx7⟩;have hz7:=hx7.size;have hE:=hE.ae hx7;refine WL.v (Y.af underlying79 rfl rfl cQ ai)<|WL.lU rfl rfl rfl eO (hIn.ext hx7) hcb2 (fun w8 hc8 hB8_=>?_);have hz8:=hc8.size;have hE:=hE.step hc8 (fun k h=>by omega);refine WL.nil (hK18 _ _ ?_);clear hK18;refine CW.region<|WL.m rfl<|WL.v (Y.add rfl rfl bB)<|WL.a rfl<|WL.nil ?_;refine⟨(x+1,S2.set (jh (aQ l) d) true),by show ps.length-(x+1)<ps.length-x;omega,Fr.ok,by show x+1≤ps.length;omega,fun _=>?_,?_,by simp [hS2l],?_,hB8_,hE⟩
   ·rw [hci];simp_all
   ·show _=bP _ _ (ps.take (x+1));rw [take_succ hd,iN,hS2]
   ·have hci2:ci=true:=by simp_all
    show(S2.set _ true)[i]? =_;rw [List.getElem?_set];split
    ·rw [if_pos ai,hci2]
    ·exact hS2i
  refine CW.exit ?_;refine hK14 _ _ ?_;clear hK14;refine CW.region<|WL.m rfl<|WL.v (Y.sub rfl rfl bB)<|WL.a rfl<|WL.nil ?_;have hupd:S2=yt (aQ l) S i:=by
   by_cases hc:ci=true
   ·have hxp:x=ps.length:=by
     have:¬(x<ps.length∧ci=true):=by assumption
     simp only [hc,and_true]at this;omega
    subst hxp;rw [hS2,List.take_length,wk hyn (by rw [hci,hc])]
   ·have hx00:x=0:=by
     rcases Nat.eq_zero_or_pos x with h|h
     ·exact h
     ·have:=hx0 h;rw [hci]at this;simp_all
    subst hx00;rw [vX (by rw [hci];simp [hc]),hS2];simp [bP]
  exact⟨(i,S2),by show i<i+1;omega,Fr.ok,by show i≤l.length;omega,hS2l,hIn,by show _=iK _ i S2;rw [hmk,iK,hupd],hE⟩
 refine CW.exit ?_;refine hK9 _ _ ?_;clear hK9;refine CW.sr fun K19 hK19=>WL.m rfl<|WL.a rfl<|WL.nil (hK19 _ _ ?_);clear hK19;refine CW.ret ⟨_,rfl,?_⟩;refine⟨b,rfl,hb,?_,hE⟩;have hk0:k=0:=by omega
 subst hk0;rw [hmk];exact hIn
set_option maxHeartbeats 1000000 in
theorem y5(u v0:Value)(l:List gj)(ids:List aD)(w:World)(hl:oR w u l)(hok:(bL (aQ l)).2=0)(hd:Sl w aN 32 v0 ids)(hin:∀d∈ids,d∈bz (aQ l)):Calls prog 36 #[u,v0] w (cB fun v w'=>Own w' pX 32 v (cn (iM (aQ l) ids))∧(∀k,v.ownBlock=some k→w.heap.size≤k)∧Ext w w'):=by
 have hl0:=hl;obtain⟨A,c,rfl,hmc,hcm⟩:=hl.sl.lens;unfold maxLen at hcm;have hd0:=hd;obtain⟨A1,c1,rfl,hdc,hdx⟩:=hd.lens;unfold maxLen at hdx;have hnl:(aQ l).length=l.length:=by simp
 have hln:=lT hok;refine ar 31 [4] [(0,.slice A l.length c),(1,.slice A1 ids.length c1)] func36 rfl rfl rfl aL cz ?_;have hE:Ext w w:=aE.refl;refine CW.sr fun K1 hK1=>WL.a rfl<|WL.nil (hK1 _ _ ?_);clear hK1;refine CW.sr fun K2 hK2=>WL.m rfl<|WL.m rfl<|WL.call func65 rfl rfl rfl (r6 _ _ l ids _ hl0 hok hd0 hin) aL ?_;rintro v10 w1 hR1;obtain⟨b,rfl,hb,hIn,hx1⟩:=hR1;have hz1:=hx1.size;have hE:=hE.ae hx1;have hltb:=hIn.lt;obtain⟨S,hS⟩:∃S,S=fJ (aQ l) ids:=⟨_,rfl⟩;have hSl:S.length=l.length:=by rw [hS,iA,hnl]
 rw [←hS]at hIn;refine WL.a rfl<|WL.nil (hK2 _ _ ?_);clear hK2;refine CW.sr fun K3 hK3=>WL.a rfl<|WL.nil (hK3 _ _ ?_);clear hK3;refine CW.seq fun K4 hK4=>CW.sr fun K5 hK5=>WL.a rfl<|WL.nil (hK5 _ _ ?_);clear hK5;refine CW.block ?_;refine CW.loop (X:=Nat×Value) (fun x=>[(0,.slice A l.length c),(5,.slice (some ⟨b,0,none⟩) l.length l.length),(6,x.2),(7,.int .i64 (x.1:Int))]) (fun x w0=>x.1≤l.length∧Own w0 pX 32 x.2 (cn (kC (pB S) (bz (aQ l)) x.1))∧((∀k,x.2.ownBlock=some k→w.heap.size≤k)∧(∀k,x.2.ownBlock=some k→k≠b))∧aK w0 b oC (b8 S)∧Ext w w0) (fun x=>l.length-x.1) (0,.slice none 0 0) Fr.ok ⟨Nat.zero_le _,Own.nil,⟨(fun k h=>by simp [Value.ownBlock]at h),(fun k h=>by simp [Value.ownBlock]at h)⟩,hIn,hE⟩ ?_;intro x w2 hl2;clear hE hIn;obtain⟨i,v⟩:=x;dsimp only at hl2⊢;obtain⟨hil,hO,⟨hfu,hfv⟩,hIn,hE⟩:=hl2;have hol:=sO (p:=pB S) (all:=bz (aQ l)) (k:=i);obtain⟨B,mb,cb,rfl⟩:=hO.lens;have hlo:=hO.lt;have hltb2:=hIn.lt;have hzE:=hE.size;refine CW.seq fun K6 hK6=>CW.sr fun K7 hK7=>WL.m rfl<|WL.m rfl<|WL.v (Y.aq underlying38 rfl)<|WL.v (Y.lss rfl rfl)<|WL.nil (hK7 _ _ ?_);clear hK7;refine bp ?_ ?_<;>intro ht8
 ·refine CW.skip ?_;refine hK6 _ _ ?_;clear hK6;obtain⟨y,hy⟩:∃y,l[i]? =some y:=⟨_,List.getElem?_eq_getElem ai⟩;obtain⟨⟨id,ps⟩,Ay,cy⟩:=y;have hyn:(aQ l)[i]? =some ⟨id,ps⟩:=by simp [hy]
  have hsel:=Ax (p:=pB S) (qa hyn);obtain⟨ci,hci⟩:∃c,S[i]? =some c:=⟨_,List.getElem?_eq_getElem ai⟩;obtain⟨a,rfl,hma⟩:=hl0.sl.at hy;refine CW.bK (X:=Value) (fun u=>[(0,.slice (some a) l.length c),(5,.slice (some ⟨b,0,none⟩) l.length l.length),(6,u),(7,.int .i64 (i:Int))]) (fun u w0=>Own w0 pX 32 u (cn (kC (pB S) (bz (aQ l)) (i+1)))∧((∀k,u.ownBlock=some k→w.heap.size≤k)∧(∀k,u.ownBlock=some k→k≠b))∧aK w0 b oC (b8 S)∧Ext w w0) ?_ ?_
  ·refine CW.block<|CW.sr fun K10 hK10=>WL.m rfl<|WL.m rfl<|WL.v (Y.af underlying79 rfl rfl cQ ai)<|WL.v (Y.ah underlying4 rfl (hIn.mh hci) rfl)<|WL.nil (hK10 _ _ ?_);clear hK10;refine bp ?_ ?_<;>intro ht11
   ·refine CW.region<|WL.m rfl<|WL.m rfl<|WL.m rfl<|WL.v (Y.af underlying38 rfl rfl cc ai)<|WL.v (Y.fieldAddr dX rfl)<|WL.v (Y.load underlying42 rfl (hma.ext hE).nC (aj _) rfl)<|WL.st (St.buildSlice rfl (kI _)) aw fun v27 w3 hR3=>?_;obtain⟨gg,rfl,hgg,hBg,hx3⟩:=hR3;have hz3:=hx3.size;have hE:=hE.ae hx3;have hIn:=hIn.ext hx3;refine WL.st (St.append underlying25 underlying25 fR rfl rfl (hO.ext hx3) (Src.one hBg (ag _)) bV (by rw [aO ag];omega)) aw fun v28 w4 hR4=>?_;obtain⟨hO4,hc4,hf4⟩:=hR4;have hR4x:=hf4;have hz4:=hc4.size;have hE:=hE.step hc4 (fun k h=>by have:=hfu k h;omega);have hf4:∀k,v28.ownBlock=some k→w.heap.size≤k:=by
     rcases hf4 with h|h
     ·intro k hk;rw [h]at hk;exact hfu k hk
     ·intro k hk;have:=h k hk;omega
    have hIn:=hIn.aA hc4 (fun h=>by have:=hfv _ h;omega);refine WL.a rfl<|WL.nil ?_;exact⟨v28,Fr.ok,by rw [hsel,if_pos (decide_eq_true (by rw [hci];simp_all))];simpa [cn]using hO4,⟨hf4,fun k hk=>by rcases hR4x with h|h;rw [h]at hk;exact hfv k hk;have:=h k hk;omega⟩,hIn,hE⟩
   refine CW.skip ?_;exact⟨.slice B mb cb,Fr.ok,by rw [hsel,if_neg (by simp [pB,hci];simp_all)];exact hO,⟨hfu,hfv⟩,hIn,hE⟩
  rintro u w5 hj5;clear hE hIn hO hfu hfv;obtain⟨hO,hfu,hIn,hE⟩:=hj5;refine CW.region<|WL.m rfl<|WL.v (Y.add rfl rfl bB)<|WL.a rfl<|WL.nil ?_;exact⟨(i+1,u),by show l.length-(i+1)<l.length-i;omega,Fr.ok,by show i+1≤l.length;omega,hO,hfu,hIn,hE⟩
 refine CW.exit ?_;refine hK4 _ _ ?_;clear hK4;refine CW.sr fun K12 hK12=>WL.m rfl<|WL.call func64 rfl rfl rfl (s4 _ _ _ (hO.sl ag aw) ai) aL ?_;rintro v30 w6 hR6;obtain⟨hO6,hf6,hx6⟩:=hR6;have hz6:=hx6.size;have hE:=hE.ae hx6;refine WL.a rfl<|WL.nil (hK12 _ _ ?_);clear hK12;refine CW.ret ⟨_,rfl,?_⟩;have hil2:i=l.length:=by omega
 subst hil2;rw [show l.length=(aQ l).length by simp,hS,BX hok hin]at hO6;exact⟨hO6,fun k hk=>by have:=hf6 k hk;omega,hE⟩
end Go.Proofs.YtmehkigmnpjcjaaGreatDoor
