/- Parts of a proof: what its last text leans on. No condition. -/
import Derived.Test.YtmehkigmnpjcjaaGreatDoorK21
set_option linter.unusedSimpArgs false
set_option linter.unusedVariables false
namespace Go.Proofs.YtmehkigmnpjcjaaGreatDoor
open Go.RowKit Go.Fw Go.Fu Go.Pl Go.Proofs.Tryz
abbrev JQ:TypeId:=117
abbrev Jh:TypeId:=171
def jt(ns:List Nn)(l:List Nat):List Nat:=(l.filter fun i=> !eV (Fw.aR ns) i).map (fh ns)
theorem ng{ns:List Nn}{a b:List Nat}:jt ns (a++b)=jt ns a++jt ns b:=by simp [jt]
structure mu(w0 w:World)(gf gt gb:Nat)(v:Value)(acc:List Nat):Prop where
 ext:Ext w0 w
 from_:aK w gf Jh [.func (.func 101) #[] #[.pointer (some ⟨gf,0,none⟩),.pointer (some ⟨gt,0,none⟩)]]
 tell:aK w gt Jh [.func (.func 83) #[] #[.pointer (some ⟨gb,0,none⟩)]]
 box:aK w gb JQ [v]
 own:Own w TP 1 v (b9 acc)
 new:∀k,v.ownBlock=some k→w0.heap.size≤k
 low:w0.heap.size≤gf∧w0.heap.size≤gt∧w0.heap.size≤gb
section
variable {w0 w w':World} {gf gt gb:Nat} {v:Value} {acc:List Nat}
theorem mu.then(h:mu w0 w gf gt gb v acc)(hx:Ext w w'):mu w0 w' gf gt gb v acc:=⟨h.ext.ae hx,h.from_.ext hx,h.tell.ext hx,h.box.ext hx,h.own.ext hx,h.new,h.low⟩
theorem mu.ne(h:mu w0 w gf gt gb v acc):(∀k,v.ownBlock=some k→k≠gf∧k≠gt∧k≠gb)∧gb≠gf∧gb≠gt:=by
 have kd:∀{k:Nat} {c1 c2:Array Value} {t1 t2:TypeId} {f1 f2:Nat×Nat},w.heap[k]? =some (.cells c1 t1 f1)→w.heap[k]? =some (.cells c2 t2 f2)→t1=t2:=fun h1 h2=>by
  rw [h1]at h2;injection h2 with h2;injection h2
 refine⟨fun k hk=>⟨?_,?_,?_⟩,?_,?_⟩
 ·rintro rfl;obtain⟨_,_,h1⟩:=h.own.kind hk;exact absurd (kd h1 h.from_) aw
 ·rintro rfl;obtain⟨_,_,h1⟩:=h.own.kind hk;exact absurd (kd h1 h.tell) aw
 ·rintro rfl;obtain⟨_,_,h1⟩:=h.own.kind hk;exact absurd (kd h1 h.box) aw
 ·rintro rfl;exact absurd (kd h.box h.from_) aw
 ·rintro rfl;exact absurd (kd h.box h.tell) aw
end
theorem qC{ns:List Nn}{l:List Nat}:(jt ns l).length≤l.length:=by rw [jt,List.length_map];exact List.length_filter_le _ _
theorem dM{l:List Nat}{f:Nat→List Nat}{k c:Nat}(h:l[k]? =some c):(l.take (k+1)).flatMap f=(l.take k).flatMap f++f c:=by
 rw [List.take_add_one,h];simp
theorem jP{l:List Nat}{f:Nat→List Nat}{k c:Nat}(h:l[k]? =some c):((l.take k).flatMap f).length+(f c).length≤(l.flatMap f).length:=by
 have h1:=dM (f:=f) h;have h2:l.flatMap f=(l.take (k+1)).flatMap f++(l.drop (k+1)).flatMap f:=by rw [←List.flatMap_append,List.take_append_drop]
 rw [h2,h1];simp only [List.length_append];omega
theorem ij{w:World}{l:List Nat}{ns:List Nn}{A:Option Addr}{m c:Nat}(h:Own w TP 1 (.slice A m c) (b9 (l.map (fh ns)))):l.length=m∧∀i q,l[i]? =some q→∃a,A=some a∧Mem w (a.add (i*1)) (pC (fh ns q)):=by
 have h1:=(h.mem A m c rfl).2.2.1;rw [a8,List.length_map,Nat.mul_one]at h1;exact⟨h1,fun i q hq=>(h.sl jX aw).get (by rw [List.getElem?_map,hq];rfl)⟩
theorem y9(gf gt gb:Nat)(v:Value)(acc:List Nat)(x:El)(lv rv:Value)(gx:Nat)(w0 w:World)(hz:aK w gx TN (bu x lv rv))(hW:mu w0 w gf gt gb v acc)(hn:acc.length≤1000000):Calls prog 83 #[.pointer (some ⟨gx,0,none⟩),.pointer (some ⟨gb,0,none⟩)] w (cB fun r w'=>r= .bool true∧∃u,mu w0 w' gf gt gb u (acc++if x.gone=true then []else [gx])):=by
 refine ar 13 [3] [(0,.pointer (some ⟨gx,0,none⟩)),(1,.pointer (some ⟨gb,0,none⟩))] func83 rfl rfl rfl aL cz ?_;have hE:Ext w w:=aE.refl;refine CW.sr fun K1 hK1=>WL.a rfl<|WL.nil (hK1 _ _ ?_);clear hK1;refine CW.bK (X:=Unit) (fun _=>[(0,.pointer (some ⟨gx,0,none⟩)),(1,.pointer (some ⟨gb,0,none⟩))]) (fun _ wj=>∃u,mu w0 wj gf gt gb u (acc++if x.gone=true then []else [gx])) ?_ ?_
 ·refine CW.sr fun K3 hK3=>WL.m rfl<|WL.v (Y.nilCheck rfl)<|WL.v (Y.fieldAddr jc rfl)<|WL.v (Y.ah underlying4 rfl hz.mem.nV rfl)<|WL.v (Y.not rfl)<|WL.nil (hK3 _ _ ?_);clear hK3;refine bp ?_ ?_<;>intro ht4
  ·refine CW.region<|WL.v (Y.ah underlying117 rfl hW.box.mem.cell0 rfl)<|WL.m rfl<|WL.st (St.buildSlice rfl (kP _)) aw fun v11 w1 hR1=>?_;obtain⟨g11,rfl,hg11,hB11,hx1⟩:=hR1;have hW1:=hW.then hx1
   have hz1:=hx1.size;refine WL.st (St.append (m:=1) (news:=b9 [gx]) UP UP k6 rfl rfl hW1.own (Fw.Src.one hB11 rfl) fq (by rw [a8];omega)) aw fun v12 w2 hR2=>?_;obtain⟨hO2,hc2,hf2⟩:=hR2;obtain⟨A2,n2,c2,rfl⟩:=hO2.lens;have hne:=hW1.ne;have hz2:=hc2.size;have hBb2:=hW1.box.aA hc2 (fun h=>(hne.1 _ h).2.2 rfl);have hgbl:=hW1.box.lt;refine WL.store (g:=gb) (pre:=[]) (old:=[v]) (post:=[]) (new:=[.slice A2 n2 c2]) rfl rfl rfl rfl aG (by simpa using hBb2) j0 (dd rfl) (fun w3 hc3 hB3_=>?_);have hz3:=hc3.size;have hW3:mu w0 w3 gf gt gb (.slice A2 n2 c2) (acc++[gx]):={
    ext:=(hW1.ext.step hc2 (fun k h=>hW1.new k h)).step hc3 (fun k h=>by have h:k=gb:=h;rw [h];exact hW1.low.2.2)
    from_:=(hW1.from_.aA hc2 (fun h=>(hne.1 _ h).1 rfl)).aA hc3 (fun h=>hne.2.1 h.symm)
    tell:=(hW1.tell.aA hc2 (fun h=>(hne.1 _ h).2.1 rfl)).aA hc3 (fun h=>hne.2.2 h.symm)
    box:=by simpa using hB3_
    own:=by
     rw [eU];refine hO2.aA hc3 (fun k hk h=>?_);have h:k=gb:=h;rcases hf2 with e|e
     ·rw [e]at hk;exact(hne.1 k hk).2.2 h
     ·have:=e k hk;omega
    new:=fun k hk=>by
     rcases hf2 with e|e
     ·rw [e]at hk;exact hW1.new k hk
     ·have:=e k hk;have:=hW1.ext.size;omega
    low:=hW1.low}
   refine WL.nil ?_;exact⟨(),Fr.ok,_,by rw [if_neg (by simp_all)];exact hW3⟩
  refine CW.skip ?_;exact⟨(),Fr.ok,v,by rw [if_pos (by simp_all)];simpa using hW⟩
 rintro u w4 hj4;obtain⟨u,hW⟩:=hj4;refine CW.sr fun K5 hK5=>WL.a rfl<|WL.nil (hK5 _ _ ?_);clear hK5;refine CW.ret ⟨_,rfl,?_⟩;exact⟨rfl,u,hW⟩
set_option maxHeartbeats 1000000 in
theorem xF(g rb ra:Nat)(ad:List aD)(ns:List Nn)(gf gt gb i:Nat)(z:Nn)(wB w:World)(v:Value)(acc:List Nat)(hT:cH wB g rb ra ad ns)(hG:Fu.Good (Fw.aR ns))(hzi:ns[i]? =some z)(IH:∀c,c∈z.el.left∨c∈z.el.right→∀w v acc,mu wB w gf gt gb v acc→acc.length+(aY (Fw.aR ns) c).length≤1000000→Calls prog 101 #[.pointer (some ⟨fh ns c,0,none⟩),.pointer (some ⟨gf,0,none⟩),.pointer (some ⟨gt,0,none⟩)] w (cB fun r w'=>r= .bool true∧∃u,mu wB w' gf gt gb u (acc++jt ns (aY (Fw.aR ns) c))))(hW:mu wB w gf gt gb v acc)(hb:acc.length+(aY (Fw.aR ns) i).length≤1000000):Calls prog 101 #[.pointer (some ⟨fh ns i,0,none⟩),.pointer (some ⟨gf,0,none⟩),.pointer (some ⟨gt,0,none⟩)] w (cB fun r w'=>r= .bool true∧∃u,mu wB w' gf gt gb u (acc++jt ns (aY (Fw.aR ns) i))):=by
 rw [fH hzi];obtain⟨xe,gx,lv,rv⟩:=z;have hze:(Fw.aR ns)[i]? =some xe:=by rw [List.getElem?_map,hzi];rfl
 have hkl:Own wB TP 1 lv (b9 (xe.left.map (fh ns))):=hT.kids i _ true hzi;have hkr:Own wB TP 1 rv (b9 (xe.right.map (fh ns))):=hT.kids i _ false hzi;have hz0:aK wB gx TN (bu xe lv rv):=hT.node i _ hzi;have hwk:=dG hG.down hze;rw [hwk]at hb⊢;rw [List.length_append,List.length_cons]at hb;dsimp only at IH⊢;obtain⟨A,m,c,rfl⟩:=hkl.lens;obtain⟨A2,m2,c2,rfl⟩:=hkr.lens;obtain⟨hlm,hlg⟩:=ij hkl;obtain⟨hrm,hrg⟩:=ij hkr;have hz:=hz0.ext hW.ext;have hcm:=(hkl.mem A m c rfl).2.2.2.1;have hcc:=(hkl.mem A m c rfl).2.2.2.2;have hcm2:=(hkr.mem A2 m2 c2 rfl).2.2.2.1;have hcc2:=(hkr.mem A2 m2 c2 rfl).2.2.2.2;unfold maxLen at hcc hcc2;refine ar 41 [4] [(0,.pointer (some ⟨gx,0,none⟩)),(1,.pointer (some ⟨gf,0,none⟩)),(2,.pointer (some ⟨gt,0,none⟩))] func101 rfl rfl rfl aL iI ?_;have hE:Ext w w:=aE.refl;refine CW.sr fun K1 hK1=>WL.a rfl<|WL.nil (hK1 _ _ ?_);clear hK1;refine CW.seq fun K2 hK2=>CW.sr fun K3 hK3=>WL.m rfl<|WL.v (Y.nilCheck rfl)<|WL.v (Y.fieldAddr dz rfl)<|WL.v (Y.ah underlying117 rfl hz.mem.fN rfl)<|WL.v (Y.aq underlying117 rfl)<|WL.m rfl<|WL.nil (hK3 _ _ ?_);clear hK3;refine CW.block ?_;refine CW.loop (X:=Nat×Value) (fun x=>[(0,.pointer (some ⟨gx,0,none⟩)),(1,.pointer (some ⟨gf,0,none⟩)),(2,.pointer (some ⟨gt,0,none⟩)),(12,.slice A m c),(13,.int .i64 (m:Int)),(14,.int .i64 (x.1:Int))]) (fun x w0=>x.1≤m∧mu wB w0 gf gt gb x.2 (acc++jt ns ((xe.left.take x.1).flatMap (aY (Fw.aR ns))))) (fun x=>m-x.1) (0,v) Fr.ok ⟨Nat.zero_le _,by simpa [jt]using hW⟩ ?_;intro x w1 hl1;obtain⟨k,v1⟩:=x;dsimp only at hl1⊢;obtain⟨hkm,hW1⟩:=hl1;refine CW.sr fun K4 hK4=>WL.v (Y.lss rfl rfl)<|WL.nil (hK4 _ _ ?_);clear hK4;refine CW.seq fun K5 hK5=>?_;refine bp ?_ ?_<;>intro ht6
 ·refine CW.skip ?_;refine hK5 _ _ ?_;clear hK5;refine CW.seq fun K7 hK7=>?_;refine CW.block<|CW.seq fun K8 hK8=>?_;obtain⟨q,hq⟩:∃q,xe.left[k]? =some q:=⟨_,List.getElem?_eq_getElem ai⟩;obtain⟨a,rfl,hma⟩:=hlg k q hq;have hfl:=jP (f:=aY (Fw.aR ns)) hq;have hsl:=qC (ns:=ns) (l:=(xe.left.take k).flatMap (aY (Fw.aR ns)));refine CW.region<|WL.v (Y.af underlying117 rfl rfl a7 ai)<|WL.v (Y.ah underlying116 rfl ((hma.ext hW1.ext).cell0) rfl)<|WL.a rfl<|WL.nil (hK8 _ _ ?_);clear hK8;refine CW.sr fun K9 hK9=>WL.v (Y.ah underlying171 rfl hW1.from_.mem.cell0 rfl)<|WL.m rfl<|WL.kp rfl func101 rfl rfl rfl (IH q (.inl (List.mem_of_getElem? hq)) _ _ _ hW1 (by rw [List.length_append];omega)) aL ?_;rintro v20 w2 hR2;obtain⟨rfl,u2,hW2⟩:=hR2;refine WL.v (Y.not rfl)<|WL.nil (hK9 _ _ ?_);clear hK9;refine bp ?_ ?_<;>intro ht10
  ·refine CW.sr fun K11 hK11=>WL.a rfl<|WL.nil (hK11 _ _ ?_);clear hK11;refine CW.ret ⟨_,rfl,?_⟩;exact absurd (show true=false by assumption) aw
  refine CW.skip ?_;refine hK7 _ _ ?_;clear hK7;refine CW.region<|WL.v (Y.add rfl rfl bB)<|WL.m rfl<|WL.nil ?_;exact⟨(k+1,u2),(by show m-(k+1)<m-k;omega),Fr.ok,(by show k+1≤m;omega),by rw [dM hq,ng,←List.append_assoc];exact hW2⟩
 refine CW.exit ?_;refine hK2 _ _ ?_;clear hK2;refine CW.seq fun K12 hK12=>CW.seq fun K13 hK13=>?_;have hke:xe.left.take k=xe.left:=List.take_of_length_le ai;rw [hke]at hW1;have hsl:=qC (ns:=ns) (l:=xe.left.flatMap (aY (Fw.aR ns)));have hz:=hz0.ext hW1.ext;refine CW.region<|WL.v (Y.ah underlying171 rfl hW1.tell.mem.cell0 rfl)<|WL.m rfl<|WL.kp rfl func83 rfl rfl rfl (y9 gf gt gb _ _ xe _ _ gx wB _ hz hW1 (by rw [List.length_append];omega)) aL ?_;rintro v25 w3 hR3;obtain⟨rfl,u3,hW3⟩:=hR3;refine WL.v (Y.not rfl)<|WL.nil (hK13 _ _ ?_);clear hK13;refine bp ?_ ?_<;>intro ht14
 ·refine CW.sr fun K15 hK15=>WL.a rfl<|WL.nil (hK15 _ _ ?_);clear hK15;refine CW.ret ⟨_,rfl,?_⟩;exact absurd (show true=false by assumption) aw
 refine CW.skip ?_;refine hK12 _ _ ?_;clear hK12;refine CW.seq fun K16 hK16=>CW.seq fun K17 hK17=>?_;have hz:=hz0.ext hW3.ext;refine CW.region<|WL.m rfl<|WL.v (Y.nilCheck rfl)<|WL.v (Y.fieldAddr dC rfl)<|WL.v (Y.ah underlying117 rfl hz.mem.fP rfl)<|WL.v (Y.aq underlying117 rfl)<|WL.m rfl<|WL.nil (hK17 _ _ ?_);clear hK17;refine CW.block ?_;refine CW.loop (X:=Nat×Value) (fun x=>[(0,.pointer (some ⟨gx,0,none⟩)),(1,.pointer (some ⟨gf,0,none⟩)),(2,.pointer (some ⟨gt,0,none⟩)),(30,.slice A2 m2 c2),(31,.int .i64 (m2:Int)),(32,.int .i64 (x.1:Int))]) (fun x w0=>x.1≤m2∧mu wB w0 gf gt gb x.2 (acc++jt ns (xe.left.flatMap (aY (Fw.aR ns)))++(if xe.gone=true then []else [gx])++jt ns ((xe.right.take x.1).flatMap (aY (Fw.aR ns))))) (fun x=>m2-x.1) (0,u3) Fr.ok ⟨Nat.zero_le _,by simpa [jt]using hW3⟩ ?_;intro x w4 hl4;obtain⟨k,v1⟩:=x;dsimp only at hl4⊢;obtain⟨hkm,hW4⟩:=hl4;refine CW.sr fun K18 hK18=>WL.v (Y.lss rfl rfl)<|WL.nil (hK18 _ _ ?_);clear hK18;refine CW.seq fun K19 hK19=>?_;refine bp ?_ ?_<;>intro ht20
 ·refine CW.skip ?_;refine hK19 _ _ ?_;clear hK19;refine CW.seq fun K21 hK21=>?_;refine CW.block<|CW.seq fun K22 hK22=>?_;obtain⟨q,hq⟩:∃q,xe.right[k]? =some q:=⟨_,List.getElem?_eq_getElem ai⟩;obtain⟨a,rfl,hma⟩:=hrg k q hq;have hfl:=jP (f:=aY (Fw.aR ns)) hq;have hsr:=qC (ns:=ns) (l:=(xe.right.take k).flatMap (aY (Fw.aR ns)));refine CW.region<|WL.v (Y.af underlying117 rfl rfl a7 ai)<|WL.v (Y.ah underlying116 rfl ((hma.ext hW4.ext).cell0) rfl)<|WL.a rfl<|WL.nil (hK22 _ _ ?_);clear hK22;refine CW.sr fun K23 hK23=>WL.v (Y.ah underlying171 rfl hW4.from_.mem.cell0 rfl)<|WL.m rfl<|WL.kp rfl func101 rfl rfl rfl (IH q (.inr (List.mem_of_getElem? hq)) _ _ _ hW4 (by rw [List.length_append,List.length_append,List.length_append];have:(if xe.gone=true then([]:List Nat)else [gx]).length≤1:=(by split<;>simp);omega)) aL ?_;rintro v38 w5 hR5;obtain⟨rfl,u5,hW5⟩:=hR5;refine WL.v (Y.not rfl)<|WL.nil (hK23 _ _ ?_);clear hK23;refine bp ?_ ?_<;>intro ht24
  ·refine CW.sr fun K25 hK25=>WL.a rfl<|WL.nil (hK25 _ _ ?_);clear hK25;refine CW.ret ⟨_,rfl,?_⟩;exact absurd (show true=false by assumption) aw
  refine CW.skip ?_;refine hK21 _ _ ?_;clear hK21;refine CW.region<|WL.v (Y.add rfl rfl bB)<|WL.m rfl<|WL.nil ?_;exact⟨(k+1,u5),(by show m2-(k+1)<m2-k;omega),Fr.ok,(by show k+1≤m2;omega),by rw [dM hq,ng,←List.append_assoc];exact hW5⟩
 refine CW.exit ?_;refine hK16 _ _ ?_;clear hK16;refine CW.sr fun K26 hK26=>WL.a rfl<|WL.nil (hK26 _ _ ?_);clear hK26;refine CW.ret ⟨_,rfl,?_⟩;have hke:xe.right.take k=xe.right:=List.take_of_length_le ai;rw [hke]at hW4;have hone:jt ns [i]=if xe.gone=true then []else [gx]:=by
  have h1:=fH hzi;cases hg:xe.gone<;>simp [jt,eT hze,hg,h1]
 refine⟨rfl,v1,?_⟩;rw [List.append_cons,ng,ng,hone,←List.append_assoc,←List.append_assoc];exact hW4
theorem yQ(g rb ra:Nat)(ad:List aD)(ns:List Nn)(gf gt gb:Nat)(wB:World)(hT:cH wB g rb ra ad ns)(hG:Fu.Good (Fw.aR ns)):∀i,i<(Fw.aR ns).length→∀w v acc,mu wB w gf gt gb v acc→acc.length+(aY (Fw.aR ns) i).length≤1000000→Calls prog 101 #[.pointer (some ⟨fh ns i,0,none⟩),.pointer (some ⟨gf,0,none⟩),.pointer (some ⟨gt,0,none⟩)] w (cB fun r w'=>r= .bool true∧∃u,mu wB w' gf gt gb u (acc++jt ns (aY (Fw.aR ns) i))):=
 gJ hG.down fun i x hx ih w v acc hW hb=>by
  rw [List.getElem?_map]at hx;obtain⟨z,hz,rfl⟩:=Option.map_eq_some_iff.1 hx;exact xF g rb ra ad ns gf gt gb i z wB w v acc hT hG hz (fun c hc w v acc hW hb=>ih c hc (hG.down i z.el (by rw [List.getElem?_map,hz];rfl) c hc).2 w v acc hW hb) hW hb
theorem C4:∃i:TypeInfo,prog.info? Jh=some i∧i.zero=some Value.nilFunc∧i.size=1:=by
 have h:(prog.info? Jh).map (fun i=>(i.zero,i.size))=some (some Value.nilFunc,1):=by kernel_rfl
 obtain⟨i,hi,h⟩:=Option.map_eq_some_iff.1 h;injection h with h1 h2
 exact⟨i,hi,h1,h2⟩
set_option maxRecDepth 100000 in
theorem CV(g rb ra:Nat)(ad:List aD)(ns:List Nn)(gb:Nat)(wB w:World)(hT:cH wB g rb ra ad ns)(hG:Fu.Good (Fw.aR ns))(hn:ns.length≤400001)(hx:Ext wB w)(hgb:wB.heap.size≤gb)(hB:aK w gb JQ [.slice none 0 0]):Calls prog 82 #[.pointer (some ⟨g,0,none⟩),.func (.func 83) #[] #[.pointer (some ⟨gb,0,none⟩)]] w (cB fun r w'=>∃u,aK w' gb JQ [u]∧Own w' TP 1 u (b9 (jt ns (bO (Fw.aR ns))))∧(∀k,u.ownBlock=some k→wB.heap.size≤k)∧Ext wB w'):=by
 have hzx:=hx.size;obtain⟨ifn,hif,hzf,hsf⟩:=C4;have hel:(Fw.aR ns).length=ns.length:=List.length_map _;refine ar 15 [] [(0,.pointer (some ⟨g,0,none⟩)),(1,.func (.func 83) #[] #[.pointer (some ⟨gb,0,none⟩)])] func82 rfl rfl rfl aL cz ?_;have hE:Ext w w:=aE.refl;refine CW.sr fun K1 hK1=>WL.box rfl rfl aw fun g3 w1 hx1 hg3 hB3=>?_;have hlt3:=hB3.lt;have hz1:=hx1.size;have hE:=hE.ae hx1;refine WL.nil (hK1 _ _ ?_);clear hK1;refine CW.seq fun K2 hK2=>CW.sr fun K3 hK3=>WL.m rfl<|WL.call func44 rfl rfl rfl (nj g rb ra ad ns _ ((hT.ext hx).ext hE)) aL ?_;rintro v w2 ⟨rfl,hx2⟩;have hz2:=hx2.size;have hE:=hE.ae hx2;have hB3:=hB3.ext hx2;refine WL.v (Y.not rfl)<|WL.nil (hK3 _ _ ?_);clear hK3;refine bp ?_ ?_<;>intro ht4
 ·refine CW.ret ⟨_,rfl,?_⟩;exact absurd (show true=false by assumption) aw
 refine CW.skip ?_;refine hK2 _ _ ?_;clear hK2;refine CW.sr fun K5 hK5=>WL.alloc (hif) (hzf) rfl aw fun g4 w3 hx3 hg4 hB4=>?_;have hlt4:=hB4.lt;have hz3:=hx3.size;have hE:=hE.ae hx3;have hB3:=hB3.ext hx3;refine WL.nil (hK5 _ _ ?_);clear hK5;refine CW.sr fun K6 hK6=>WL.v (Y.makeFunc rfl)<|WL.store (g:=g4) (pre:=[]) (old:=[Value.nilFunc]) (post:=[]) (new:=[.func (.func 101) #[] #[.pointer (some ⟨g4,0,none⟩),.pointer (some ⟨g3,0,none⟩)]]) rfl rfl rfl rfl aG (by simpa using hB4) j0 (dd rfl) (fun w4 hc4 hB4_=>?_);have hz4:=hc4.size;have hE:=hE.step hc4 (fun k h=>by omega);have hB3:=hB3.aA hc4 cq;have hB4:aK w4 g4 Jh [.func (.func 101) #[] #[.pointer (some ⟨g4,0,none⟩),.pointer (some ⟨g3,0,none⟩)]]:=by simpa using hB4_
 have hWk:mu wB w4 g4 g3 gb (.slice none 0 0) []:=⟨hx.ae hE,hB4,hB3,hB.ext hE,Own.nil,fun k hk=>(by simp [Value.ownBlock]at hk),⟨by omega,by omega,hgb⟩⟩;refine WL.nil (hK6 _ _ ?_);clear hK6;refine CW.head 5 aG aG fun w5 hx5=>?_;skip;have hz5:=hx5.size;have hE:=hE.ae hx5;have hB4:=hB4.ext hx5;refine HL.val (Y.ah underlying171 rfl hB4.mem.cell0 rfl) aw<|HL.val (Y.move rfl) aw<|HL.val (Y.nilCheck rfl) aw<|HL.val (Y.fieldAddr eJ rfl) aw<|HL.val (Y.ah underlying116 rfl ((hT.ext hx).ext hE).bY.mem.iV rfl) aw<|HL.nil<|WL.kp rfl func101 rfl rfl rfl (yQ g rb ra ad ns g4 g3 gb wB hT hG 0 hG.pos _ _ [] (hWk.then hx5) (by have h9:=hG.perm.length_eq;rw [List.length_range,hel]at h9;show 0+(bO (Fw.aR ns)).length≤_;omega)) aL ?_;rintro v14 w6 hR6;obtain⟨rfl,u,hWu⟩:=hR6;refine WL.nil ?_;refine⟨_,rfl,?_⟩;exact⟨u,hWu.box,by simpa using hWu.own,hWu.new,hWu.ext⟩
theorem qs(g rb ra:Nat)(ad:List aD)(ns:List Nn)(w:World)(hT:cH w g rb ra ad ns)(hG:Fu.Good (Fw.aR ns))(hn:ns.length≤400001):Calls prog 57 #[.pointer (some ⟨g,0,none⟩)] w (cB fun v w'=>Own w' TP 1 v (b9 ((bf (Fw.aR ns)).map (fh ns)))∧(∀k,v.ownBlock=some k→w.heap.size≤k)∧Ext w w'):=by
 refine ar 8 [2] [(0,.pointer (some ⟨g,0,none⟩))] func57 rfl rfl rfl aL du ?_;have hE:Ext w w:=aE.refl;refine CW.sr fun K1 hK1=>WL.a rfl<|WL.nil (hK1 _ _ ?_);clear hK1;refine CW.sr fun K2 hK2=>WL.yX (z:= .slice none 0 0) aG rfl aw fun g3 w1 hx1 hg3 hB3=>?_;have hlt3:=hB3.lt;have hz1:=hx1.size;have hE:=hE.ae hx1;refine WL.nil (hK2 _ _ ?_);clear hK2;refine CW.sr fun K3 hK3=>WL.m rfl<|WL.v (Y.makeFunc rfl)<|WL.call func82 rfl rfl rfl (CV g rb ra ad ns g3 w _ hT hG hn hE ai hB3) aL ?_;rintro v6 w2 hR2;obtain⟨u,hBu,hOu,hnu,hxu⟩:=hR2;have hB3:=hBu;have hE:=hxu;refine WL.nil (hK3 _ _ ?_);clear hK3;refine CW.sr fun K4 hK4=>WL.v (Y.ah underlying117 rfl hB3.mem.cell0 rfl)<|WL.a rfl<|WL.nil (hK4 _ _ ?_);clear hK4;refine CW.ret ⟨_,rfl,?_⟩;exact⟨hOu,hnu,hxu⟩
end Go.Proofs.YtmehkigmnpjcjaaGreatDoor
namespace Go.Proofs.YtmehkigmnpjcjaaGreatDoor
open Go.RowKit Go.Fw Go.Fu Go.Pl Go.Proofs.Tryz
theorem AA{e:List El}(hG:Fu.Good e){n:Int}(h0:0≤n)(h1:n≤((bf e).length:Int)):iE e n<e.length:=by
 unfold iE;by_cases h:n=0
 ·rw [if_pos h];exact hG.pos
 ·rw [if_neg h];obtain⟨q,hq⟩:∃q,(bf e)[(n-1).toNat]? =some q:=⟨_,List.getElem?_eq_getElem ai⟩;rw [hq];exact jI hG.down (List.mem_of_getElem? hq)
theorem Cz(g rb ra:Nat)(ad:List aD)(ns:List Nn)(w:World)(hT:cH w g rb ra ad ns)(hG:Fu.Good (Fw.aR ns))(hn:ns.length≤400001):Calls prog 28 #[.pointer (some ⟨g,0,none⟩)] w (cB fun v w'=>v= .string (bs (bZ (Fw.aR ns)))∧Ext w w'):=by
 have hlv:(bf (Fw.aR ns)).length=dr ns:=hG.jn;have hel:(Fw.aR ns).length=ns.length:=List.length_map _;have hsl:∀q,q∈bf (Fw.aR ns)→q<ns.length:=fun q hq=>by rw [←hel];exact jI hG.down hq
 obtain⟨ir,hir,hzr,hsr⟩:=gd;have hli:(bf (Fw.aR ns)).length≤400001:=by
  have:=List.countP_le_length (p:=fun x:El=> !x.gone) (l:=Fw.aR ns);rw [hlv];rw [List.length_map]at this;exact Nat.le_trans this hn
 refine ar 23 [2] [(0,.pointer (some ⟨g,0,none⟩))] func28 rfl rfl rfl aL du ?_;have hE:Ext w w:=aE.refl;refine CW.sr fun K1 hK1=>WL.a rfl<|WL.nil (hK1 _ _ ?_);clear hK1;refine CW.sr fun K2 hK2=>WL.a rfl<|WL.nil (hK2 _ _ ?_);clear hK2;refine CW.seq fun K3 hK3=>CW.sr fun K4 hK4=>WL.m rfl<|WL.call func57 rfl rfl rfl (qs g rb ra ad ns _ hT hG hn) aL ?_;rintro v7 w1 hR1;obtain⟨hO1,hf1,hx1⟩:=hR1;obtain⟨A,m,c,rfl⟩:=hO1.lens;obtain⟨hlm,hlg⟩:=ij hO1;have hcc:=(hO1.mem A m c rfl).2.2.2;unfold maxLen at hcc;have hE:=hE.ae hx1;refine WL.v (Y.aq underlying117 rfl)<|WL.m rfl<|WL.nil (hK4 _ _ ?_);clear hK4;refine CW.block ?_;refine CW.loop (X:=Nat×Value) (fun x=>[(0,.pointer (some ⟨g,0,none⟩)),(3,x.2),(7,.slice A m c),(8,.int .i64 (m:Int)),(9,.int .i64 (x.1:Int))]) (fun x w0=>x.1≤m∧Own w0 5 1 x.2 (az (((bf (Fw.aR ns)).take x.1).map (gA (Fw.aR ns))))∧Own w0 TP 1 (.slice A m c) (b9 ((bf (Fw.aR ns)).map (fh ns)))∧(∀k,x.2.ownBlock=some k→w.heap.size≤k)∧Ext w w0) (fun x=>m-x.1) (0,.slice none 0 0) Fr.ok ⟨Nat.zero_le _,Own.nil,hO1,(fun k hk=>by simp [Value.ownBlock]at hk),hE⟩ ?_;intro x w2 hl2;obtain⟨k,bv⟩:=x;dsimp only at hl2⊢;obtain⟨hkm,hOb,hOl,hfb,hE⟩:=hl2;obtain⟨hlm,hlg⟩:=ij hOl;refine CW.sr fun K5 hK5=>WL.v (Y.lss rfl rfl)<|WL.nil (hK5 _ _ ?_);clear hK5;refine CW.seq fun K6 hK6=>?_;refine bp ?_ ?_<;>intro ht7
 ·refine CW.skip ?_;refine hK6 _ _ ?_;clear hK6;refine CW.seq fun K8 hK8=>?_;refine CW.block<|CW.seq fun K9 hK9=>?_;obtain⟨q,hq⟩:∃q,(bf (Fw.aR ns))[k]? =some q:=⟨_,List.getElem?_eq_getElem ai⟩;obtain⟨a,rfl,hma⟩:=hlg k q hq;obtain⟨z,hz⟩:∃z,ns[q]? =some z:=⟨_,List.getElem?_eq_getElem (hsl q (List.mem_of_getElem? hq))⟩;have hze:(Fw.aR ns)[q]? =some z.el:=by rw [List.getElem?_map,hz];rfl
  have hzb:=(hT.node q z hz).ext hE;rw [fH hz]at hma;refine CW.region<|WL.v (Y.af underlying117 rfl rfl a7 ai)<|WL.v (Y.ah underlying116 rfl hma.cell0 rfl)<|WL.a rfl<|WL.nil (hK9 _ _ ?_);clear hK9;refine CW.region<|WL.m rfl<|WL.m rfl<|WL.v (Y.nilCheck rfl)<|WL.v (Y.fieldAddr k7 rfl)<|WL.v (Y.ah underlying5 rfl hzb.mem.ow rfl)<|WL.st (St.buildSlice rfl (Bg _)) aw fun v18 w3 hR3=>?_;obtain⟨g18,rfl,hg18,hB18,hx3⟩:=hR3;have hz3:=hx3.size;refine WL.st (St.app (ys:=[z.el.byte]) underlying142 underlying142 jl rfl rfl (hOb.ext hx3) (aK.Gt hB18) (by rw [List.length_map,List.length_take];omega)) aw fun v19 w4 hR4=>?_;obtain⟨hO4,hc4,hf4⟩:=hR4;have hz4:=hc4.size;have hE4:Ext w w4:=(hE.ae hx3).step hc4 (fun k h=>hfb k h);have hOl4:=(hOl.ext hx3).aA hc4 (fun k hk h=>by
   obtain⟨_,_,h1⟩:=(hOl.ext hx3).kind hk;obtain⟨_,_,h2⟩:=(hOb.ext hx3).kind h;rw [h1]at h2;injection h2 with h2;injection h2 with _ h2;exact absurd h2 aw)
  refine WL.a rfl<|WL.nil (hK8 _ _ ?_);clear hK8;refine CW.region<|WL.v (Y.add rfl rfl bB)<|WL.m rfl<|WL.nil ?_;exact⟨(k+1,v19),(by show m-(k+1)<m-k;omega),Fr.ok,(by show k+1≤m;omega),(by rw [List.take_add_one,hq];simpa [lE hze]using hO4),hOl4,(fun q hq=>by rcases hf4 with e|e;rw [e]at hq;exact hfb q hq;have:=e q hq;have:=hE.size;omega),hE4⟩
 refine CW.exit ?_;refine hK3 _ _ ?_;clear hK3;refine CW.seq fun K10 hK10=>?_;have hke:(bf (Fw.aR ns)).take k=bf (Fw.aR ns):=List.take_of_length_le ai;rw [hke]at hOb;obtain⟨Ab,mb,cb,rfl⟩:=hOb.lens;obtain⟨hm1,hm2,hm3,_⟩:=hOb.mem Ab mb cb rfl;rw [aS,Nat.mul_one]at hm3;refine CW.region<|WL.m rfl<|WL.v (Y.dy underlying142 underlying5 underlying9 rfl (l:=(bf (Fw.aR ns)).map (gA (Fw.aR ns))) hm3 hm1 hm2)<|WL.a rfl<|WL.nil (hK10 _ _ ?_);clear hK10;refine CW.ret ⟨_,rfl,?_⟩;exact⟨rfl,hE⟩
set_option maxHeartbeats 1000000 in
theorem yi(g rb ra:Nat)(ad:List aD)(ns:List Nn)(n:Int)(w:World)(hT:cH w g rb ra ad ns)(hG:Fu.Good (Fw.aR ns))(hn:ns.length≤400001):Calls prog 58 #[.pointer (some ⟨g,0,none⟩),.int .i64 n] w (cB fun v w'=>v= .tuple #[dE (c4 (Fw.aR ns) n).1,.bool (c4 (Fw.aR ns) n).2.1,.bool (c4 (Fw.aR ns) n).2.2]∧Ext w w'):=by
 have hlv:(bf (Fw.aR ns)).length=dr ns:=hG.jn;have hel:(Fw.aR ns).length=ns.length:=List.length_map _;have hsl:∀q,q∈bf (Fw.aR ns)→q<ns.length:=fun q hq=>by rw [←hel];exact jI hG.down hq
 obtain⟨ir,hir,hzr,hsr⟩:=gd;have hli:(bf (Fw.aR ns)).length≤400001:=by
  have:=List.countP_le_length (p:=fun x:El=> !x.gone) (l:=Fw.aR ns);rw [hlv];rw [List.length_map]at this;exact Nat.le_trans this hn
 refine dV 69 4 34 [5,6] [(0,.pointer (some ⟨g,0,none⟩)),(1,.int .i64 n)] func58 rfl rfl rfl underlying62 rfl aG aL cz ?_;have hE:Ext w w:=aE.refl;refine CW.sr fun K1 hK1=>WL.alloc (hir) (hzr) rfl aw fun g4 w1 hx1 hg4 hB4=>?_;have hlt4:=hB4.lt;have hz1:=hx1.size;have hE:=hE.ae hx1;refine WL.a rfl<|WL.a rfl<|WL.nil (hK1 _ _ ?_);clear hK1;refine CW.seq fun K2 hK2=>?_;refine CW.cP 23 (n<0∨(dr ns:Int)<n) ?_ ?_
 ·refine CW.region<|WL.m rfl<|WL.call func44 rfl rfl rfl (nj g rb ra ad ns _ (hT.ext hE)) aL ?_;rintro v w2 ⟨rfl,hx2⟩;have hz2:=hx2.size;have hE:=hE.ae hx2;have hB4:=hB4.ext hx2;refine WL.v (Y.not rfl)<|WL.m rfl ?_;refine dO ?_ ?_<;>intro hg12
  ·refine WL.o rfl rfl<|WL.o rfl rfl<|WL.v (Y.pick rfl rfl)<|WL.m rfl<|WL.o rfl rfl<|WL.o rfl rfl<|WL.o rfl rfl<|WL.o rfl rfl<|WL.o rfl rfl<|WL.o rfl rfl<|WL.v (Y.pick rfl rfl)<|WL.nil ⟨⟨_,rfl,?_⟩,hx2,Fr.cT⟩;exact aH
  ·refine WL.g rfl rfl (Y.move rfl)<|WL.g rfl rfl (Y.lss rfl rfl)<|WL.v (Y.pick rfl rfl)<|WL.m rfl ?_;refine dO ?_ ?_<;>intro hg16
   ·refine WL.o rfl rfl<|WL.o rfl rfl<|WL.o rfl rfl<|WL.o rfl rfl<|WL.o rfl rfl<|WL.o rfl rfl<|WL.v (Y.pick rfl rfl)<|WL.nil ⟨⟨_,rfl,?_⟩,hx2,Fr.cT⟩;exact aH
   ·refine WL.g rfl rfl (Y.move rfl)<|WL.g rfl rfl (Y.move rfl)<|WL.g rfl rfl (Y.nilCheck rfl)<|WL.g rfl rfl (Y.fieldAddr eL rfl)<|WL.g rfl rfl (Y.ah underlying3 rfl ((hT.ext hE).bY.mem.lV) rfl)<|WL.g rfl rfl (Y.gtr rfl rfl)<|WL.v (Y.pick rfl rfl)<|WL.nil ⟨⟨_,rfl,?_⟩,hx2,Fr.cT⟩;exact aH
 intro w3 hx3;have hz3:=hx3.size;have hE:=hE.ae hx3;have hB4:=hB4.ext hx3;refine bp ?_ ?_<;>intro ht3
 ·refine CW.sr fun K4 hK4=>WL.v (Y.eQ (iw _))<|WL.store (g:=g4) (pre:=[]) (old:=aX aF.zero) (post:=[]) (new:=aX aF.zero) rfl rfl rfl rfl (aT _) (by simpa using hB4) (by simp only [ax]) (dN) (fun w4 hc4 hB4_=>?_);have hz4:=hc4.size;have hE:=hE.step hc4 (fun k h=>by omega);have hB4:aK w4 g4 62 (aX aF.zero):=by simpa using hB4_
  refine WL.a rfl<|WL.a rfl<|WL.nil (hK4 _ _ ?_);clear hK4;refine CW.ret ?_;exact⟨_,_,_,rfl,hB4.mem,ax _,rfl,⟨by rw [c4,if_pos (by rw [hlv];assumption)],hE⟩⟩
 refine CW.skip ?_;refine hK2 _ _ ?_;clear hK2;refine CW.sr fun K5 hK5=>WL.m rfl<|WL.v (Y.nilCheck rfl)<|WL.v (Y.fieldAddr eJ rfl)<|WL.v (Y.ah underlying116 rfl ((hT.ext hE).bY.mem.iV) rfl)<|WL.a rfl<|WL.nil (hK5 _ _ ?_);clear hK5;refine CW.bK (X:=Unit) (fun _=>[(0,.pointer (some ⟨g,0,none⟩)),(1,.int .i64 n),(4,.pointer (some ⟨g4,0,none⟩)),(7,.pointer (some ⟨fh ns (iE (Fw.aR ns) n),0,none⟩))]) (fun _ w0=>Ext w w0∧aK w0 g4 62 (aX aF.zero)) ?_ ?_
 ·refine CW.sr fun K7 hK7=>WL.m rfl<|WL.v (Y.gtr rfl rfl)<|WL.nil (hK7 _ _ ?_);clear hK7;refine bp ?_ ?_<;>intro ht8
  ·refine CW.region<|WL.m rfl<|WL.call func57 rfl rfl rfl (qs g rb ra ad ns _ (hT.ext hE) hG hn) aL ?_;rintro v32 w5 hR5;obtain⟨hO5,hf5,hx5⟩:=hR5;obtain⟨A,m,c,rfl⟩:=hO5.lens;obtain⟨hlm,hlg⟩:=ij hO5;have hcc:=(hO5.mem A m c rfl).2.2.2;unfold maxLen at hcc;have hE:=hE.ae hx5;have hB4:=hB4.ext hx5;obtain⟨i,rfl⟩:∃i:Nat,n=(i:Int)+1:=⟨(n-1).toNat,by omega⟩;obtain⟨q,hq⟩:∃q,(bf (Fw.aR ns))[i]? =some q:=⟨_,List.getElem?_eq_getElem ai⟩;obtain⟨a,rfl,hma⟩:=hlg i q hq;obtain⟨z,hz⟩:∃z,ns[q]? =some z:=⟨_,List.getElem?_eq_getElem (hsl q (List.mem_of_getElem? hq))⟩;have hze:(Fw.aR ns)[q]? =some z.el:=by rw [List.getElem?_map,hz];rfl
   have hzb:=(hT.node q z hz).ext hE;rw [fH hz]at hma;have hgi:iE (Fw.aR ns) ((i:Int)+1)=q:=by rw [iE,if_neg ai,show((i:Int)+1-1).toNat=i by omega,hq];rfl
   refine WL.m rfl<|WL.v (Y.sub rfl rfl bB) ?_;rw [show((i:Int)+1-1)=(i:Int)by omega];refine WL.v (Y.af underlying117 rfl rfl a7 ai)<|WL.v (Y.ah underlying116 rfl (hma.cell0) rfl)<|WL.a rfl<|WL.nil ?_;exact⟨(),(by rw [hgi,fH hz];exact Fr.ok),hE,hB4⟩
  refine CW.skip ?_;have hn0:n=0:=by omega
  subst hn0;exact⟨(),Fr.ok,hE,hB4⟩
 rintro u w6 hj6;obtain⟨hE,hB4⟩:=hj6;have hgl:=AA hG (n:=n) ai (by rw [hlv];omega);rw [hel]at hgl;obtain⟨⟨xe,gx,lv,rv⟩,hz⟩:∃z,ns[iE (Fw.aR ns) n]? =some z:=⟨_,List.getElem?_eq_getElem hgl⟩;have hze:(Fw.aR ns)[iE (Fw.aR ns) n]? =some xe:=by rw [List.getElem?_map,hz];rfl
 have hzb0:aK w gx TN (bu xe lv rv):=hT.node _ _ hz;have hzb:=hzb0.ext hE;have hkr:Own w TP 1 rv (b9 (xe.right.map (fh ns))):=hT.kids _ _ false hz;obtain⟨A2,m2,c2,rfl⟩:=hkr.lens;obtain⟨hrm,hrg⟩:=ij hkr;have hge:c4 (Fw.aR ns) n=((jC (Fw.aR ns) (iE (Fw.aR ns) n)).1,(jC (Fw.aR ns) (iE (Fw.aR ns) n)).2,true):=by rw [c4,if_neg (by rw [hlv];assumption)]
 rw [fH hz];refine CW.seq fun K9 hK9=>CW.sr fun K10 hK10=>WL.m rfl<|WL.v (Y.nilCheck rfl)<|WL.v (Y.fieldAddr dC rfl)<|WL.v (Y.ah underlying117 rfl hzb.mem.fP rfl)<|WL.v (Y.aq underlying117 rfl)<|WL.v (Y.eql rfl rfl)<|WL.nil (hK10 _ _ ?_);clear hK10;refine bp ?_ ?_<;>intro ht11
 ·refine CW.sr fun K12 hK12=>WL.m rfl<|WL.v (Y.nilCheck rfl)<|WL.v (Y.fieldAddr cG rfl)<|WL.v (Y.load underlying62 rfl hzb.mem.dJ (aT _) rfl)<|WL.store (g:=g4) (pre:=[]) (old:=aX aF.zero) (post:=[]) (new:=aX xe.name) rfl rfl rfl rfl (aT _) (by simpa using hB4) (by simp only [ax]) (dN) (fun w7 hc7 hB7_=>?_);have hz7:=hc7.size;have hE:=hE.step hc7 (fun k h=>by omega);have hB4:aK w7 g4 62 (aX xe.name):=by simpa using hB7_
  refine WL.a rfl<|WL.a rfl<|WL.nil (hK12 _ _ ?_);clear hK12;refine CW.ret ?_;have hr0:xe.right=[]:=List.length_eq_zero_iff.1 ai;have hga:jC (Fw.aR ns) (iE (Fw.aR ns) n)=(xe.name,false):=by rw [jC,hze];simp only [Option.map_some,Option.getD_some,hr0];rw [fc hze]
  exact⟨_,_,_,rfl,hB4.mem,ax _,rfl,⟨by rw [hge,hga],hE⟩⟩
 refine CW.skip ?_;refine hK9 _ _ ?_;clear hK9;refine CW.seq fun K13 hK13=>?_;obtain⟨c0,r0,hrc⟩:∃c r,xe.right=c::r:=by
  cases hr:xe.right with
  |nil=>rw [hr]at hrm;simp at hrm;omega
  |cons c r=>exact⟨c,r,rfl⟩
 obtain⟨a2,rfl,hma2⟩:=hrg 0 c0 (by rw [hrc];rfl);have hc0:=hG.down _ _ hze c0 (.inr (by rw [hrc];simp));rw [hel]at hc0;have hga:jC (Fw.aR ns) (iE (Fw.aR ns) n)=(nm (Fw.aR ns) (xf (Fw.aR ns) c0),true):=by rw [jC,hze];simp only [Option.map_some,Option.getD_some,hrc]
 refine CW.region<|WL.m rfl<|WL.v (Y.nilCheck rfl)<|WL.v (Y.fieldAddr dC rfl)<|WL.v (Y.ah underlying117 rfl hzb.mem.fP rfl)<|WL.v (Y.af (i:=0) underlying117 rfl rfl a7 ai)<|WL.v (Y.ah underlying116 rfl ((hma2.ext hE).cell0) rfl)<|WL.a rfl<|WL.nil (hK13 _ _ ?_);clear hK13;refine CW.seq fun K14 hK14=>?_;refine CW.block ?_;refine CW.loop (X:=Nat) (fun x=>[(0,.pointer (some ⟨g,0,none⟩)),(1,.int .i64 n),(4,.pointer (some ⟨g4,0,none⟩)),(8,.pointer (some ⟨fh ns x,0,none⟩))]) (fun x w0=>x<ns.length∧xf (Fw.aR ns) x=xf (Fw.aR ns) c0∧Ext w w0∧aK w0 g4 62 (aX aF.zero)) (fun x=>ns.length-x) c0 Fr.ok ⟨hc0.2,rfl,hE,hB4⟩ ?_;intro x w8 hl8;obtain⟨hxl,hlme,hE,hB4⟩:=hl8;obtain⟨⟨xl,gl,lv2,rv2⟩,hz2⟩:∃z,ns[x]? =some z:=⟨_,List.getElem?_eq_getElem hxl⟩;have hzl:(Fw.aR ns)[x]? =some xl:=by rw [List.getElem?_map,hz2];rfl
 have hzb2:aK w gl TN (bu xl lv2 rv2):=hT.node _ _ hz2;have hzb:=hzb2.ext hE;have hkl:Own w TP 1 lv2 (b9 (xl.left.map (fh ns))):=hT.kids _ _ true hz2;obtain⟨A3,m3,c3,rfl⟩:=hkl.lens;obtain⟨hlm,hlg⟩:=ij hkl;rw [fH hz2];refine CW.seq fun K15 hK15=>CW.sr fun K16 hK16=>WL.m rfl<|WL.v (Y.nilCheck rfl)<|WL.v (Y.fieldAddr dz rfl)<|WL.v (Y.ah underlying117 rfl hzb.mem.fN rfl)<|WL.v (Y.aq underlying117 rfl)<|WL.v (Y.gtr rfl rfl)<|WL.nil (hK16 _ _ ?_);clear hK16;refine bp ?_ ?_<;>intro ht17
 ·refine CW.skip ?_;refine hK15 _ _ ?_;clear hK15;refine CW.block ?_;obtain⟨c1,r1,hlc⟩:∃c r,xl.left=c::r:=by
   cases hr:xl.left with
   |nil=>rw [hr]at hlm;simp at hlm;omega
   |cons c r=>exact⟨c,r,rfl⟩
  obtain⟨a3,rfl,hma3⟩:=hlg 0 c1 (by rw [hlc];rfl);have hc1:=hG.down _ _ hzl c1 (.inl (by rw [hlc];simp));rw [hel]at hc1;refine CW.region<|WL.m rfl<|WL.v (Y.nilCheck rfl)<|WL.v (Y.fieldAddr dz rfl)<|WL.v (Y.ah underlying117 rfl hzb.mem.fN rfl)<|WL.v (Y.af (i:=0) underlying117 rfl rfl a7 ai)<|WL.v (Y.ah underlying116 rfl ((hma3.ext hE).cell0) rfl)<|WL.a rfl<|WL.nil ?_;exact⟨c1,(by show ns.length-c1<ns.length-x;omega),Fr.ok,hc1.2,(by rw [←hlme,DG hG.down hzl,hlc]),hE,hB4⟩
 refine CW.exit ?_;refine hK14 _ _ ?_;clear hK14;refine CW.sr fun K18 hK18=>WL.m rfl<|WL.v (Y.nilCheck rfl)<|WL.v (Y.fieldAddr cG rfl)<|WL.v (Y.load underlying62 rfl hzb.mem.dJ (aT _) rfl)<|WL.store (g:=g4) (pre:=[]) (old:=aX aF.zero) (post:=[]) (new:=aX xl.name) rfl rfl rfl rfl (aT _) (by simpa using hB4) (by simp only [ax]) (dN) (fun w9 hc9 hB9_=>?_);have hz9:=hc9.size;have hE:=hE.step hc9 (fun k h=>by omega);have hB4:aK w9 g4 62 (aX xl.name):=by simpa using hB9_
 refine WL.a rfl<|WL.a rfl<|WL.nil (hK18 _ _ ?_);clear hK18;refine CW.ret ?_;have hl0:xl.left=[]:=List.length_eq_zero_iff.1 ai;have hlx:xf (Fw.aR ns) c0=x:=by rw [←hlme,DG hG.down hzl,hl0]
 exact⟨_,_,_,rfl,hB4.mem,ax _,rfl,⟨by rw [hge,hga,hlx,fc hzl],hE⟩⟩
end Go.Proofs.YtmehkigmnpjcjaaGreatDoor
namespace Go.Fw
open Go.RowKit
theorem qQ{c:Array Value}:∀m:Nat,(List.range (m*c.size)).map (fun i=>c[i % c.size]!)=(List.replicate m c.toList).flatten
 |0=>by simp
 |m+1=>by
  have ih:=qQ (c:=c) m;rw [Nat.succ_mul,List.range_add,List.map_append,ih,List.replicate_succ',List.flatten_append];congr 1;rw [List.map_map];simp only [List.flatten_cons,List.flatten_nil,List.append_nil];apply List.ext_getElem?;intro j;rw [List.getElem?_map];by_cases hj:j<c.size
  ·rw [List.getElem?_range hj];have e:(m*c.size+j) % c.size=j:=by rw [Nat.mul_comm,Nat.mul_add_mod];exact Nat.mod_eq_of_lt hj
   simp only [Option.map_some,Function.comp_apply,e,Array.getElem?_toList];simp [hj]
  ·rw [List.getElem?_eq_none (by simpa using hj),List.getElem?_eq_none (by simpa using hj)];rfl
theorem sw{c:Array Value}(m:Nat):madeCells c (m*c.size)=((List.replicate m c.toList).flatten).toArray:=by
 unfold madeCells;rw [←qQ];apply Array.ext';simp [Array.toList_range]
def lg(P:Program)(e:TypeId)(zs:List Value)(b:Nat):Prop:=∃i z,P.info? e=some i∧i.zero=some z∧z.cells=zs.toArray∧i.size=zs.length∧i.bytes=b
section
variable {P:Program} {n:NN} {Φ:Exit→Fr→World→Prop} {fr:Fr} {w:World} {ty:TypeId} {e:TypeId}
theorem St.xK{t:TypeId}{x y:Operand}{k k':IntKind}{m b:Nat}{zs:List Value}(hT:P.underlying t=some (.slice e))(hi:lg P e zs b)
  (hx:ev fr x=some (.int k (m:Int))) (hy:ev fr y=some (.int k' (m:Int))) (hm:b*m≤281474976710656) (hm2:m≤9223372036854775807):
  St P n fr (.makeSlice t x y) ty w (fun v w'=>∃g,v= .slice (some ⟨g,0,none⟩) m m∧w.heap.size≤g∧aK w' g e ((List.replicate m zs).flatten)∧Ext w w'):=fun a o' ho hty ha=>by
 obtain⟨i,z,hi,hz,hzc,hs,rfl⟩:=hi;have hr:=run_make (P:=P) w t e i z hT hi hz k k' (m:Int) (m:Int) ai (Int.le_refl _) (by rw [←Int.natCast_mul];omega) ai;simp only [Int.toNat_natCast]at hr;have hsz:i.size=z.cells.size:=by rw [hs,hzc];simp
 rw [hsz,sw,hzc]at hr;refine⟨_,w.alloc (.cells ((List.replicate m zs).flatten).toArray e),?_,w.heap.size,rfl,Nat.le_refl _,aK.new w e _,aE.alloc _⟩;simp only [execOp,ho,ha.ev hx,ha.ev hy,Sem.run_bind];rw [hr];rfl
theorem WL.lX{ops:Array Oper}{rest:List Oper}{t:TypeId}{x y:Operand}{pos:String}{aft:Array Edge}{v:Value}{cs:List Value}{b i:Nat}{A:Addr}
  (hx:ev fr x=some (.pointer (some A))) (hA:A=(⟨b,0,none⟩:Addr).add (i*1)) (hy:ev fr y=some v) (hv:v.cells= #[v]) (h1:v.oneCell'=true) (hS:(P.info? t).map (·.size)=some 1) (hB:aK w b e cs) (hi:i<cs.length)
  (h:∀w',aE (·=b) w w'→aK w' b e (cs.set i v)→WL P ops n Φ rest fr w'):WL P ops n Φ (⟨none,.store t x y,ty,pos,aft,none⟩::rest) fr w:=by
 have e1:cs=cs.take i++[cs[i]]++cs.drop (i+1):=by
  conv=>lhs;rw [←List.take_append_drop i cs,List.drop_eq_getElem_cons hi]
  simp
 have e2:cs.set i v=cs.take i++[v]++cs.drop (i+1):=by
  rw [List.set_eq_take_append_cons_drop,if_pos hi];simp
 refine WL.store (g:=b) (pre:=cs.take i) (old:=[cs[i]]) (post:=cs.drop (i+1)) (new:=[v]) hx ?_ hy hv hS (e1▸hB) rfl (dd h1) fun w' hc hB'=>?_
 ·rw [hA,Nat.mul_one,add_zero',List.length_take,Nat.min_eq_left ai]
 ·exact h w' hc (e2▸hB')
theorem ox{α:Type}{enc:α→List Value}{xs:List α}{i:Nat}{y:α}(x:α)(h:xs[i]? =some y):
  (xs.map enc).flatten=((xs.take i).map enc).flatten++enc y++((xs.drop (i+1)).map enc).flatten∧((xs.set i x).map enc).flatten=((xs.take i).map enc).flatten++enc x++((xs.drop (i+1)).map enc).flatten:=by
 obtain⟨hlt,hc⟩:=List.getElem?_eq_some_iff.1 h;have e1:xs=xs.take i++[y]++xs.drop (i+1):=by
  conv=>lhs;rw [←List.take_append_drop i xs,List.drop_eq_getElem_cons hlt,hc]
  simp
 have e2:xs.set i x=xs.take i++[x]++xs.drop (i+1):=by
  rw [List.set_eq_take_append_cons_drop,if_pos hlt];simp
 constructor
 ·conv=>lhs;rw [e1]
  simp
 ·rw [e2];simp
def fe(S:List Nat):List Value:=S.map fun(m:Nat)=>Value.int .i64 (m:Int)
theorem gV(S:List Nat):(fe S).length=S.length:=by simp [fe]
end
end Go.Fw
namespace Go.Fw
open Go.Fu
section
variable {w:World} {a:Addr} {x:El} {lv rv:Value} (h:Mem w a (bu x lv rv))
include h
theorem Mem.df:Mem w (a.add 0) (aX x.name):=h.sub 0 fun j v hj=>by
 have hlt:j<(aX x.name).length:=(List.getElem?_eq_some_iff.1 hj).1;rw [Nat.zero_add,bu,List.getElem?_append_left hlt];exact hj
theorem Mem.nv:w.cell? (a.add 34)=some (.int .u8 (x.byte.toNat:Int)):=h.cell 34 (by rw [bu,List.getElem?_append_right (by rw [ax];omega),ax];rfl)
theorem Mem.ny:w.cell? (a.add 35)=some (.bool x.gone):=h.cell 35 (by rw [bu,List.getElem?_append_right (by rw [ax];omega),ax];rfl)
theorem Mem.jz:w.cell? (a.add 36)=some lv:=h.cell 36 (by rw [bu,List.getElem?_append_right (by rw [ax];omega),ax];rfl)
theorem Mem.gC:w.cell? (a.add 37)=some rv:=h.cell 37 (by rw [bu,List.getElem?_append_right (by rw [ax];omega),ax];rfl)
end
section
variable {w:World} {a:Addr} {u v:Value} (h:Mem w a [u,v])
include h
theorem Mem.gF:w.cell? (a.add 0)=some u:=h.cell 0 rfl
theorem Mem.aP:w.cell? (a.add 1)=some v:=h.cell 1 rfl
end
structure Rn where
 el:El
 lv:Value
 rv:Value
def Rn.sv(x:Rn)(s:Bool):Value:=cond s x.lv x.rv
def rC(x:Rn):List Value:=bu x.el x.lv x.rv
theorem gu(x:Rn):(rC x).length=38:=o5 _ _ _
abbrev ay(rs:List Rn):List El:=rs.map Rn.el
end Go.Fw
namespace Go.Proofs.YtmehkigmnpjcjaaGreatDoor
open Go.RowKit Go.Fw Go.Fu Go.Proofs.Tryz
abbrev H7:TypeId:=113
abbrev tO:TypeId:=110
abbrev Ik:TypeId:=42
structure ey(w:World)(g:Nat)(ad:List aD)(rs:List Rn)(av ev_:Value):Prop where
 bY:aK w g H7 [av,ev_]
 ads:Own w Ik 32 av (cn ad)
 es:Own w tO 38 ev_ ((rs.map rC).flatten)
 kids:∀x∈rs,∀s,Own w 3 1 (x.sv s) (fe (side x.el s))
def Rp(g:Nat)(rs:List Rn)(av ev_:Value)(k:Nat):Prop:=k=g∨av.ownBlock=some k∨ev_.ownBlock=some k∨∃x∈rs,∃s,(x.sv s).ownBlock=some k
section
variable {w w':World} {g:Nat} {ad:List aD} {rs:List Rn} {av ev_:Value} {S:Nat→Prop}
theorem ey.lt(h:ey w g ad rs av ev_){k:Nat}(hk:Rp g rs av ev_ k):k<w.heap.size:=by
 rcases hk with rfl|hk|hk|⟨x,hx,s,hk⟩
 ·exact h.bY.lt
 ·exact h.ads.lt k hk
 ·exact h.es.lt k hk
 ·exact(h.kids x hx s).lt k hk
theorem ey.aA(h:ey w g ad rs av ev_)(hc:aE S w w')(hs:∀k,Rp g rs av ev_ k→¬S k):ey w' g ad rs av ev_ where
 bY:=h.bY.aA hc (hs g (.inl rfl))
 ads:=h.ads.aA hc fun k hk=>hs k (.inr (.inl hk))
 es:=h.es.aA hc fun k hk=>hs k (.inr (.inr (.inl hk)))
 kids x hx s:=(h.kids x hx s).aA hc fun k hk=>hs k (.inr (.inr (.inr ⟨x,hx,s,hk⟩)))
theorem ey.ext(h:ey w g ad rs av ev_)(hc:Ext w w'):ey w' g ad rs av ev_:=h.aA hc fun _ _ f=>f
theorem ey.ne(h:ey w g ad rs av ev_):(∀k,av.ownBlock=some k→k≠g∧ev_.ownBlock≠some k)∧(∀k,ev_.ownBlock=some k→k≠g)∧∀x∈rs,∀s k,(x.sv s).ownBlock=some k→k≠g∧av.ownBlock≠some k∧ev_.ownBlock≠some k:=by
 have hb:=h.bY;unfold aK at hb;have kd:∀{k:Nat} {c1 c2:Array Value} {t1 t2:TypeId} {f1 f2:Nat×Nat},w.heap[k]? =some (.cells c1 t1 f1)→w.heap[k]? =some (.cells c2 t2 f2)→t1=t2:=fun h1 h2=>by
  rw [h1]at h2;injection h2 with h2;injection h2
 refine⟨fun k hk=>⟨?_,fun hk2=>?_⟩,fun k hk=>?_,fun x hx s k hk=>⟨?_,fun hk2=>?_,fun hk2=>?_⟩⟩
 ·rintro rfl;obtain⟨_,_,h1⟩:=h.ads.kind hk;exact absurd (kd h1 hb) aw
 ·obtain⟨_,_,h1⟩:=h.ads.kind hk;obtain⟨_,_,h2⟩:=h.es.kind hk2;exact absurd (kd h1 h2) aw
 ·rintro rfl;obtain⟨_,_,h1⟩:=h.es.kind hk;exact absurd (kd h1 hb) aw
 ·rintro rfl;obtain⟨_,_,h1⟩:=(h.kids x hx s).kind hk;exact absurd (kd h1 hb) aw
 ·obtain⟨_,_,h1⟩:=(h.kids x hx s).kind hk;obtain⟨_,_,h2⟩:=h.ads.kind hk2;exact absurd (kd h1 h2) aw
 ·obtain⟨_,_,h1⟩:=(h.kids x hx s).kind hk;obtain⟨_,_,h2⟩:=h.es.kind hk2;exact absurd (kd h1 h2) aw
theorem ey.sl(h:ey w g ad rs av ev_):Sl w rC 38 ev_ rs:=h.es.sl gu aw
end
theorem aV:(prog.info? tO).map (·.size)=some 38:=by kernel_rfl
theorem AQ:(prog.info? 23).map (·.size)=some 1:=by kernel_rfl
theorem dQ:bh prog H7 0 0:=⟨_,_,1,underlying113,rfl,Bc,by decide,rfl⟩
theorem aI:bh prog H7 1 1:=⟨_,_,1,underlying113,rfl,by kernel_rfl,by decide,rfl⟩
theorem cI:bh prog tO 0 0:=⟨_,_,34,underlying110,rfl,qe,by decide,rfl⟩
theorem mg:bh prog tO 1 34:=⟨_,_,1,underlying110,rfl,fx,by decide,rfl⟩
theorem iH:bh prog tO 2 35:=⟨_,_,1,underlying110,rfl,eO,by decide,rfl⟩
theorem ff:bh prog tO 3 36:=⟨_,_,1,underlying110,rfl,AQ,by decide,rfl⟩
theorem dR:bh prog tO 4 37:=⟨_,_,1,underlying110,rfl,AQ,by decide,rfl⟩
theorem yO(parts:List (Nat×Value)):prog.built tO parts=Instr.fill (fun i=>#[(0,34),(34,1),(35,1),(36,1),(37,1)][i]?) (bu ⟨aF.zero,0,false,[],[]⟩ (.slice none 0 0) (.slice none 0 0)).toArray parts:=by kernel_rfl
theorem xC(w:World):(Instr.build tO [(2,Value.bool true)].toArray).run prog w= .ok (.agg (bu El.root (.slice none 0 0) (.slice none 0 0)).toArray) w:=run_build w _ _ _ aG
theorem yY(r:aF)(b:UInt8)(w:World):(Instr.build tO [(0,dE r),(1,Value.int .u8 (b.toNat:Int))].toArray).run prog w= .ok (.agg (bu ⟨r,b,false,[],[]⟩ (.slice none 0 0) (.slice none 0 0)).toArray) w:=run_build w _ _ _ (by
 show prog.built _ [(0,dE r),(1,Value.int .u8 (b.toNat:Int))]=_;rw [yO];have e0:bu ⟨aF.zero,0,false,[],[]⟩ (.slice none 0 0) (.slice none 0 0)=[]++aX aF.zero++[bc 0,.bool false,.slice none 0 0,.slice none 0 0]:=rfl;rw [e0,bM [] (aX aF.zero) [bc 0,.bool false,.slice none 0 0,.slice none 0 0] (aX r) (by rw [ax];rfl) rfl (by rw [ax,ax]) rfl];have e1:[]++aX r++[bc 0,.bool false,.slice none 0 0,.slice none 0 0]=aX r++[bc 0]++[.bool false,.slice none 0 0,.slice none 0 0]:=by simp
 rw [e1,bM (aX r) [bc 0] [.bool false,.slice none 0 0,.slice none 0 0] [.int .u8 (b.toNat:Int)] rfl rfl rfl (ax r),Instr.fill];simp [bu,bc])
theorem xI(u:Value)(h:u.cells= #[u])(w:World):(Instr.build H7 [(1,u)].toArray).run prog w= .ok (.agg [.slice none 0 0,u].toArray) w:=run_build w _ _ _ (by
 have hb:∀parts,prog.built H7 parts=Instr.fill (fun i=>#[(0,1),(1,1)][i]?) [Value.slice none 0 0,.slice none 0 0].toArray parts:=fun parts=>by kernel_rfl
 show prog.built _ [(1,u)]=_;rw [hb];have:=bM (place:=fun i=>#[(0,1),(1,1)][i]?) (i:=1) (off:=1) (v:=u) (rest:=[]) [Value.slice none 0 0] [.slice none 0 0] [] [u] rfl (by rw [h]) rfl rfl;exact this)
theorem vu:eP prog tO 38 104:=by
 have h:(prog.info? tO).map (fun i=>(i.size,i.bytes,i.zero))=some (38,104,some (.agg (bu ⟨aF.zero,0,false,[],[]⟩ (.slice none 0 0) (.slice none 0 0)).toArray)):=by kernel_rfl
 obtain⟨i,hi,h⟩:=Option.map_eq_some_iff.1 h;injection h with h1 h2
 injection h2 with h2 h3
 exact⟨i,_,hi,h3,h1,by show(bu _ _ _).toArray.size=38;simp [o5],h2,by decide,by decide⟩
theorem sA(x:Rn)(w:World):(Instr.buildSlice 111 1 [(0,Value.agg (rC x).toArray)].toArray).run prog w= .ok (.slice (some ⟨w.heap.size,0,none⟩) 1 1) (w.alloc (.cells (rC x).toArray tO)):=by
 obtain⟨i,z,hi,hz,hs,_,_,h0,_⟩:=vu;exact il underlying111 hi hz ai ai rfl (by rw [gu,hs]) w
end Go.Proofs.YtmehkigmnpjcjaaGreatDoor
