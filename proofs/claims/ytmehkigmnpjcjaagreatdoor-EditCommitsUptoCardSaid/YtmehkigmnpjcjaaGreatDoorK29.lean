/- Parts of a proof: what its last text leans on. No condition. -/
import Derived.Test.YtmehkigmnpjcjaaGreatDoorK28
set_option linter.unusedSimpArgs false
set_option linter.unusedVariables false
namespace Go.Fw
open Go.RowKit Go.Fu
theorem Y.tL{P:Program}{n:NN}{fr:Fr}{w:World}{ty:TypeId}{x y:Operand}{a b:Int}{c:Nat}{t t':TypeId}(hx:ev fr x=some (.int .i64 a))(hy:ev fr y=some (.int .i64 b))(h:a-b=(c:Int))(hb: -9223372036854775808≤a-b∧a-b≤9223372036854775807):Yw P n fr (.binOp .sub t x y t') ty w (.int .i64 (c:Int)) w:=by
 rw [←h];exact Y.sub hx hy bB
def my(x:dm):List Value:=[.int .i64 (x.kind:Int),.int .i64 (x.n:Int),.string (bs x.text)]
theorem gS(x:dm):(my x).length=3:=rfl
theorem we{x:dm}:∀u∈my x,u.oneCell'=true:=by
 intro u hu;simp only [my,List.mem_cons,List.not_mem_nil,or_false]at hu;rcases hu with rfl|rfl|rfl<;>rfl
abbrev kE(l:List dm):List Value:=(l.map my).flatten
theorem fi(l:List dm):(kE l).length=l.length*3:=aO gS l
section
variable {w:World} {a:Addr} {x:dm} (h:Mem w a (my x))
include h
theorem Mem.o6:w.cell? (a.add 0)=some (.int .i64 (x.kind:Int)):=h.cell 0 rfl
theorem Mem.ko:w.cell? (a.add 1)=some (.int .i64 (x.n:Int)):=h.cell 1 rfl
theorem Mem.lh:w.cell? (a.add 2)=some (.string (bs x.text)):=h.cell 2 rfl
end
theorem pO{l:List dm}{i:Nat}{x:dm}(h:l[i]? =some x)(t:List UInt8):kE l=(kE (l.take i)++[.int .i64 (x.kind:Int),.int .i64 (x.n:Int)])++[.string (bs x.text)]++kE (l.drop (i+1))∧kE (l.set i ⟨x.kind,x.n,t⟩)=(kE (l.take i)++[.int .i64 (x.kind:Int),.int .i64 (x.n:Int)])++[.string (bs t)]++kE (l.drop (i+1)):=by
 obtain⟨h1,h2⟩:=ox (enc:=my) (⟨x.kind,x.n,t⟩:dm) h;exact⟨by rw [kE,h1];simp only [my,List.append_assoc,List.cons_append,List.nil_append],by rw [kE,h2];simp only [my,List.append_assoc,List.cons_append,List.nil_append]⟩
theorem AM{l:List dm}{i:Nat}{x:dm}(h:l[i]? =some x)(n:Nat):kE l=(kE (l.take i)++[.int .i64 (x.kind:Int)])++[.int .i64 (x.n:Int)]++([.string (bs x.text)]++kE (l.drop (i+1)))∧kE (l.set i ⟨x.kind,n,x.text⟩)=(kE (l.take i)++[.int .i64 (x.kind:Int)])++[.int .i64 (n:Int)]++([.string (bs x.text)]++kE (l.drop (i+1))):=by
 obtain⟨h1,h2⟩:=ox (enc:=my) (⟨x.kind,n,x.text⟩:dm) h;exact⟨by rw [kE,h1];simp only [my,List.append_assoc,List.cons_append,List.nil_append],by rw [kE,h2];simp only [my,List.append_assoc,List.cons_append,List.nil_append]⟩
def pF(l:List dm):Nat:=((l[l.length-1]?).map dm.kind).getD 0
theorem ur{l:List dm}{k:Nat}(h:(l.length:Int)=0∨¬(pF l:Int)=(k:Int)):cL l k=l++[⟨k,0,[]⟩]:=by
 rw [cL,if_neg];intro h1;rw [List.getLast?_eq_getElem?]at h1;rcases h with h|h
 ·rw [List.getElem?_eq_none_iff.2 ai]at h1;cases h1
 ·rw [pF,h1]at h;exact h rfl
theorem uj{l:List dm}{k:Nat}(h:¬((l.length:Int)=0∨¬(pF l:Int)=(k:Int))):cL l k=l:=by
 rw [cL,if_pos];rw [List.getLast?_eq_getElem?];have h0:¬(l.length:Int)=0:=fun e=>h (.inl e);have h1:(pF l:Int)=(k:Int):=Decidable.not_not.1 fun e=>h (.inr e);obtain⟨x,hx⟩:∃x,l[l.length-1]? =some x:=⟨_,List.getElem?_eq_getElem ai⟩;rw [hx];rw [pF,hx]at h1;simp only [Option.map_some,Option.getD_some]at h1⊢;congr 1;omega
theorem x6{l:List dm}{s:iG}{x:dm}(h:(cL l s.kind)[(cL l s.kind).length-1]? =some x):fZ l s=(cL l s.kind).set ((cL l s.kind).length-1) (x.more s):=by
 unfold fZ;generalize cL l s.kind=m at h⊢;apply List.ext_getElem?;intro i;rw [List.getElem?_modify,List.getElem?_set];have hlt:=(List.getElem?_eq_some_iff.1 h).1;by_cases e:m.length-1=i
 ·subst e;rw [if_pos rfl,if_pos hlt,h];simp
 ·rw [if_neg e];cases m[i]? with
  |none=>rfl
  |some y=>show some (if m.length-1=i then _ else y)=_;rw [if_neg e]
def _root_.Go.Fu.iG.str:iG→List UInt8
 | .put y=>[y]
 |_=>[]
def Gc(l:List dm)(N:Nat):Prop:=∀x∈l,x.n+x.text.length≤N
theorem Gc.open_{l:List dm}{N k:Nat}(h:Gc l N):Gc (cL l k) N:=fun x hx=>by
 unfold cL at hx;split at hx
 ·exact h x hx
 ·rcases List.mem_append.1 hx with hx|hx
  ·exact h x hx
  ·simp at hx;subst hx;simp
theorem Gc.add{l:List dm}{N:Nat}(h:Gc l N)(s:iG):Gc (fZ l s) (N+1):=fun x hx=>by
 obtain⟨i,hi⟩:=List.mem_iff_getElem?.1 hx;unfold fZ at hi;rw [List.getElem?_modify]at hi;obtain⟨y,hy,rfl⟩:=Option.map_eq_some_iff.1 hi;have:=h.open_ y (List.mem_of_getElem? hy);split
 ·cases s<;>simp [dm.more]<;>omega
 ·omega
end Go.Fw
namespace Go.Proofs.YtmehkigmnpjcjaaGreatDoor
open Go.RowKit Go.Fw Go.Fu Go.Pl Go.Proofs.Tryz
abbrev TE:TypeId:=98
abbrev It:TypeId:=83
abbrev UE:=underlying83
theorem b4:(prog.info? TE).map (·.size)=some 3:=by kernel_rfl
theorem tB(x:dm):(prog.info? TE).map (·.size)=some (my x).length:=b4
theorem kJ:bh prog TE 0 0:=⟨_,_,1,underlying98,rfl,by kernel_rfl,by decide,rfl⟩
theorem eC:bh prog TE 1 1:=⟨_,_,1,underlying98,rfl,by kernel_rfl,by decide,rfl⟩
theorem fb:bh prog TE 2 2:=⟨_,_,1,underlying98,rfl,by kernel_rfl,by decide,rfl⟩
theorem vS:eP prog TE 3 32:=by
 have h:(prog.info? TE).map (fun i=>(i.size,i.bytes,i.zero))=some (3,32,some (.agg (my ⟨0,0,[]⟩).toArray)):=by kernel_rfl
 obtain⟨i,hi,h⟩:=Option.map_eq_some_iff.1 h;injection h with h1 h2
 injection h2 with h2 h3
 exact⟨i,_,hi,h3,h1,rfl,h2,by decide,by decide⟩
theorem si(k:Nat)(w:World):(Instr.build TE [(0,Value.int .i64 (k:Int))].toArray).run prog w= .ok (.agg (my ⟨k,0,[]⟩).toArray) w:=run_build w _ _ _ (by
 have hb:∀parts,prog.built TE parts=Instr.fill (fun i=>#[(0,1),(1,1),(2,1)][i]?) (my ⟨0,0,[]⟩).toArray parts:=fun parts=>by kernel_rfl
 show prog.built _ [(0,Value.int .i64 (k:Int))]=_;rw [hb];have e0:my ⟨0,0,[]⟩=[]++[Value.int .i64 ((0:Nat):Int)]++[Value.int .i64 ((0:Nat):Int),Value.string (bs [])]:=rfl;rw [e0,bM [] [Value.int .i64 ((0:Nat):Int)] [Value.int .i64 ((0:Nat):Int),Value.string (bs [])] [.int .i64 (k:Int)] rfl rfl rfl rfl,Instr.fill];rfl)
theorem x9(x:dm)(w:World):(Instr.buildSlice It 1 [(0,.agg (my x).toArray)].toArray).run prog w= .ok (.slice (some ⟨w.heap.size,0,none⟩) 1 1) (w.alloc (.cells (my x).toArray TE)):=by
 obtain⟨i,z,hi,hz,hk,_⟩:=vS;exact il UE hi hz ai ai rfl (by rw [gS,hk]) w
theorem rH{w:World}{l:List dm}{A:Option Addr}{m c:Nat}(h:Own w TE 3 (.slice A m c) (kE l)):l.length=m∧(0<m→∃a x,A=some a∧l[m-1]? =some x∧x.kind=pF l∧Mem w (a.add ((m-1)*3)) (my x)):=by
 have h1:l.length=m:=by
  have h2:=(h.mem A m c rfl).2.2.1;rw [fi]at h2;omega
 refine⟨h1,fun h0=>?_⟩;obtain⟨x,hx⟩:∃x,l[m-1]? =some x:=⟨_,List.getElem?_eq_getElem ai⟩;obtain⟨a,ha,hm⟩:=(h.sl gS aw).get hx;exact⟨a,x,ha,hx,by rw [pF,h1,hx];rfl,hm⟩
set_option maxRecDepth 100000 in
set_option maxHeartbeats 1000000 in
theorem qn(gl:Nat)(u0:Value)(l:List dm)(N:Nat)(s:iG)(w:World)(hB:aK w gl It [u0])(hO:Own w TE 3 u0 (kE l))(hlen:l.length≤4000)(hbd:Gc l N)(hN:N≤4000):Calls prog 56 #[.int .i64 (s.kind:Int),.string (bs s.str),.pointer (some ⟨gl,0,none⟩)] w (cB fun _ w'=>∃u',aK w' gl It [u']∧Own w' TE 3 u' (kE (fZ l s))∧(∀q,u'.ownBlock=some q→u0.ownBlock=some q∨w.heap.size≤q)∧aE (fun q=>q=gl∨u0.ownBlock=some q) w w'):=by
 have hB2:=hB;obtain⟨A,m,c,rfl⟩:=hO.lens;obtain⟨u0,hu0⟩:∃u0,u0=Value.slice A m c:=⟨_,rfl⟩;rw [←hu0];have hgl:=hB.lt;have hsk:s.kind≤3:=by cases s<;>simp [iG.kind]
 have hss:s.str.length≤1:=by cases s<;>simp [iG.str]
 obtain⟨hm,hcell⟩:=rH hO;have hlK:(l.length:Int)=(m:Int):=by omega
 have hgu:∀q,(Value.slice A m c).ownBlock=some q→q≠gl:=fun q hq e=>by
  obtain⟨_,_,h1⟩:=hO.kind hq;subst e;exact absurd (bW h1 hB) aw
 refine ar 47 [] [(0,.int .i64 (s.kind:Int)),(1,.string (bs s.str)),(2,.pointer (some ⟨gl,0,none⟩))] func56 rfl rfl rfl aL iI ?_;have hE:Ext w w:=aE.refl;refine CW.bK (X:=Value) (fun _=>[(0,.int .i64 (s.kind:Int)),(1,.string (bs s.str)),(2,.pointer (some ⟨gl,0,none⟩))]) (fun u1 w0=>aK w0 gl It [u1]∧Own w0 TE 3 u1 (kE (cL l s.kind))∧(∀q,u1.ownBlock=some q→u0.ownBlock=some q∨w.heap.size≤q)∧aE (fun q=>q=gl∨u0.ownBlock=some q) w w0) ?_ ?_
 ·refine CW.bS 18 ((m:Int)=0∨¬(pF l:Int)=(s.kind:Int)) ?_ ?_
  ·refine CW.region<|WL.v (Y.ah underlying83 rfl hB2.mem.cell0 rfl)<|WL.v (Y.aq underlying83 rfl)<|WL.v (Y.eql rfl rfl)<|WL.m rfl ?_;refine dO ?_ ?_<;>intro hg8
   ·refine WL.o rfl rfl<|WL.o rfl rfl<|WL.o rfl rfl<|WL.o rfl rfl<|WL.o rfl rfl<|WL.o rfl rfl<|WL.o rfl rfl<|WL.o rfl rfl<|WL.o rfl rfl<|WL.v (Y.pick rfl rfl)<|WL.nil ⟨⟨_,rfl,?_⟩,rfl,Fr.cT⟩;exact aH
   ·obtain⟨a,x,rfl,hx,hxk,hma⟩:=hcell ai;rw [←hxk];refine WL.g rfl rfl (Y.ah underlying83 rfl hB2.mem.cell0 rfl)<|WL.g rfl rfl (Y.ah underlying83 rfl hB2.mem.cell0 rfl)<|WL.g rfl rfl (Y.aq underlying83 rfl)<|WL.g rfl rfl (Y.tL (c:=m-1) rfl rfl ai ai)<|WL.g rfl rfl (Y.af underlying83 rfl rfl b4 ai)<|WL.g rfl rfl (Y.fieldAddr kJ rfl)<|WL.g rfl rfl (Y.ah underlying3 rfl hma.o6 rfl)<|WL.g rfl rfl (Y.move rfl)<|WL.g rfl rfl (Y.neq rfl rfl)<|WL.v (Y.pick rfl rfl)<|WL.nil ⟨⟨_,rfl,?_⟩,rfl,Fr.cT⟩;exact aH
  refine bp ?_ ?_<;>intro ht2
  ·refine CW.region<|WL.v (Y.ah underlying83 rfl hB2.mem.cell0 rfl)<|WL.m rfl<|WL.v (Y.build rfl (si _ _))<|WL.st (St.buildSlice rfl (x9 _)) aw fun v22 w1 hR1=>?_;obtain⟨g22,rfl,hg22,hB22,hx1⟩:=hR1;have hz1:=hx1.size;refine WL.st (St.append (m:=1) (news:=my ⟨s.kind,0,[]⟩) UE UE vS rfl rfl (hO.ext hx1) (Fw.Src.one hB22 rfl) we (by rw [fi];omega)) aw fun v23 w2 hR2=>?_;obtain⟨hO2,hc2,hf2⟩:=hR2;have hz2:=hc2.size;obtain⟨A7,m7,c7,rfl⟩:=hO2.lens;have hB2:=(hB2.ext hx1).aA hc2 (fun h=>hgu _ h rfl);have hO2:Own w2 TE 3 (.slice A7 m7 c7) (kE (cL l s.kind)):=by rw [ur (by rw [hlK];assumption)];simpa [kE]using hO2
   refine WL.store (g:=gl) (pre:=[]) (old:=[.slice A m c]) (post:=[]) (new:=[.slice A7 m7 c7]) rfl rfl rfl rfl aG (by simpa using hB2) j0 (dd rfl) (fun w3 hc3 hB3_=>?_);have hz3:=hc3.size;have hB2:aK w3 gl It [.slice A7 m7 c7]:=by simpa using hB3_
   have hf7:∀q,(Value.slice A7 m7 c7).ownBlock=some q→(Value.slice A m c).ownBlock=some q∨w.heap.size≤q:=fun q hq=>by
    rcases hf2 with h|h
    ·rw [h]at hq;exact .inl hq
    ·exact .inr (by have:=h q hq;omega)
   have hO3:=hO2.aA hc3 (fun q hq e=>by rcases hf7 q hq with h|h;exact hgu q h e;omega);have hC3:aE (fun q=>q=gl∨u0.ownBlock=some q) w w3:=((Ext.aA (S:=(fun q=>q=gl∨u0.ownBlock=some q)) hx1).trans hc2 (fun q _ h=>.inr (by rw [hu0];exact h))).trans hc3 (fun q _ h=>.inl h);refine WL.nil ?_;exact⟨_,Fr.ok,hB2,hO3,(by rw [hu0];exact hf7),hC3⟩
  refine CW.skip ?_;exact⟨_,Fr.ok,hB2,(by rw [uj (by rw [hlK];assumption)];exact hO),(fun q hq=>.inl (by rw [hu0];exact hq)),aE.refl⟩
 rintro u w4 hj4;obtain⟨hB2,hO,hf,hC⟩:=hj4;obtain⟨A1,m1,c1,rfl⟩:=hO.lens;obtain⟨hm1,hcell1⟩:=rH hO;have hbd1:=hbd.open_ (k:=s.kind);obtain⟨x1,hx1,hxk⟩:=kq l s.kind;have hl1:=gq l s.kind;have hpos:0<m1:=by have:=(List.getElem?_eq_some_iff.1 hx1).1;omega
 obtain⟨a1,x2,rfl,hx2,_,hma1⟩:=hcell1 hpos;rw [←hm1,hx1]at hx2;obtain rfl:=Option.some.inj hx2;have hxb:=hbd1 x1 (List.mem_of_getElem? hx1);obtain⟨g1,hg1,_⟩:=hO.head (by
  intro h;have h2:=fi (cL l s.kind);rw [h]at h2;simp at h2;omega)
 injection hg1 with hg1
 subst hg1;have hset:=x6 hx1;rw [hm1]at hx1 hset;refine CW.sr fun K3 hK3=>WL.m rfl<|WL.v (Y.eql rfl rfl)<|WL.nil (hK3 _ _ ?_);clear hK3;refine bp ?_ ?_<;>intro ht4
 ·refine CW.region<|WL.v (Y.ah underlying83 rfl hB2.mem.cell0 rfl)<|WL.v (Y.ah underlying83 rfl hB2.mem.cell0 rfl)<|WL.v (Y.aq underlying83 rfl)<|WL.v (Y.tL (c:=m1-1) rfl rfl ai ai)<|WL.v (Y.af underlying83 rfl rfl b4 ai)<|WL.v (Y.fieldAddr fb rfl)<|WL.v (Y.ah underlying9 rfl hma1.lh rfl)<|WL.m rfl<|WL.v (Y.n4 rfl rfl ((by rw [bT,bT];omega)))<|WL.v (Y.af underlying83 rfl rfl b4 ai)<|WL.v (Y.fieldAddr fb rfl)<|WL.kZ (g:=g1) (pre:=kE ((cL l s.kind).take (m1-1))++[.int .i64 (x1.kind:Int),.int .i64 (x1.n:Int)]) (old:=[.string (bs x1.text)]) (post:=kE ((cL l s.kind).drop (m1-1+1))) (new:=[.string (bs x1.text++bs s.str)]) rfl (by rw [add_add,add_zero',List.length_append,fi,List.length_take,Nat.min_eq_left ai];rfl) rfl rfl aG (by rw [←(pO hx1 []).1];exact hO) j0 (dd rfl) (fun w5 hc5 hB5_=>?_);have hz5:=hc5.size;obtain⟨y,rfl⟩:∃y,s= .put y:=by
   have ht:(s.kind:Int)=3:=by assumption
   cases s with
   |put y=>exact⟨y,rfl⟩
   |_=>simp [iG.kind]at ht
  rw [show bs x1.text++bs (iG.put y).str=bs (x1.text++[y])from dw _ _,←(pO hx1 (x1.text++[y])).2]at hB5_;have hO2:Own w5 TE 3 (.slice (some ⟨g1,0,none⟩) m1 c1) (kE (fZ l (.put y))):=by rw [hset];exact hB5_
  have hB2:=hB2.aA hc5 (fun e=>by rcases hf g1 rfl with h|h;rw [hu0]at h;exact hgu _ h e.symm;omega);refine WL.nil ?_;refine⟨_,rfl,?_⟩;exact⟨_,hB2,hO2,hf,hC.trans hc5 (fun q _ h=>by have h:q=g1:=h;rw [h];rcases hf g1 rfl with h|h;exact .inr h;omega)⟩
 refine CW.region<|WL.v (Y.ah underlying83 rfl hB2.mem.cell0 rfl)<|WL.v (Y.ah underlying83 rfl hB2.mem.cell0 rfl)<|WL.v (Y.aq underlying83 rfl)<|WL.v (Y.tL (c:=m1-1) rfl rfl ai ai)<|WL.v (Y.af underlying83 rfl rfl b4 ai)<|WL.v (Y.fieldAddr eC rfl)<|WL.v (Y.ah underlying3 rfl hma1.ko rfl)<|WL.v (Y.add rfl rfl bB)<|WL.v (Y.af underlying83 rfl rfl b4 ai)<|WL.v (Y.fieldAddr eC rfl)<|WL.kZ (g:=g1) (pre:=kE ((cL l s.kind).take (m1-1))++[.int .i64 (x1.kind:Int)]) (old:=[.int .i64 (x1.n:Int)]) (post:=[.string (bs x1.text)]++kE ((cL l s.kind).drop (m1-1+1))) (new:=[.int .i64 ((x1.n:Int)+1)]) rfl (by rw [add_add,add_zero',List.length_append,fi,List.length_take,Nat.min_eq_left ai];rfl) rfl rfl aG (by rw [←(AM hx1 0).1];exact hO) j0 (dd rfl) (fun w6 hc6 hB6_=>?_);have hz6:=hc6.size;have hO2:Own w6 TE 3 (.slice (some ⟨g1,0,none⟩) m1 c1) (kE (fZ l s)):=by
  have e:((x1.n:Int)+1)=((x1.n+1:Nat):Int):=by omega
  rw [e,←(AM hx1 (x1.n+1)).2]at hB6_;have hmo:x1.more s=⟨x1.kind,x1.n+1,x1.text⟩:=by
   have ht:¬(s.kind:Int)=3:=by assumption
   cases s with
   |put y=>simp [iG.kind]at ht
   |_=>rfl
  rw [hset,hmo];exact hB6_
 have hB2:=hB2.aA hc6 (fun e=>by rcases hf g1 rfl with h|h;rw [hu0]at h;exact hgu _ h e.symm;omega);refine WL.nil ?_;refine⟨_,rfl,?_⟩;exact⟨_,hB2,hO2,hf,hC.trans hc6 (fun q _ h=>by have h:q=g1:=h;rw [h];rcases hf g1 rfl with h|h;exact .inr h;omega)⟩
set_option maxRecDepth 100000 in
set_option maxHeartbeats 1000000 in
theorem tG(u0:Value)(l:List dm)(N:Nat)(s:iG)(w:World)(hO:Own w TE 3 u0 (kE l))(hlen:l.length≤4000)(hbd:Gc l N)(hN:N≤4000):Calls prog 70 #[u0,.int .i64 (s.kind:Int),.string (bs s.str)] w (cB fun v w'=>Own w' TE 3 v (kE (fZ l s))∧(∀q,v.ownBlock=some q→u0.ownBlock=some q∨w.heap.size≤q)∧aE (fun q=>u0.ownBlock=some q) w w'):=by
 obtain⟨A,m,c,rfl⟩:=hO.lens;obtain⟨u0,hu0⟩:∃u0,u0=Value.slice A m c:=⟨_,rfl⟩;rw [←hu0];have hsk:s.kind≤3:=by cases s<;>simp [iG.kind]
 have hss:s.str.length≤1:=by cases s<;>simp [iG.str]
 obtain⟨hm,hcell⟩:=rH hO;have hlK:(l.length:Int)=(m:Int):=by omega
 rw [hu0];refine ar 57 [6] [(0,.slice A m c),(1,.int .i64 (s.kind:Int)),(2,.string (bs s.str))] func70 rfl rfl rfl aL iI ?_;have hE:Ext w w:=aE.refl;refine CW.sr fun K1 hK1=>WL.a rfl<|WL.nil (hK1 _ _ ?_);clear hK1;refine CW.sr fun K2 hK2=>WL.m rfl<|WL.v (Y.aq underlying83 rfl)<|WL.a rfl<|WL.nil (hK2 _ _ ?_);clear hK2;refine CW.bK (X:=Value) (fun u1=>[(0,u1),(1,.int .i64 (s.kind:Int)),(2,.string (bs s.str)),(7,.int .i64 ((cL l s.kind).length:Int))]) (fun u1 w0=>Own w0 TE 3 u1 (kE (cL l s.kind))∧(∀q,u1.ownBlock=some q→u0.ownBlock=some q∨w.heap.size≤q)∧aE (fun q=>u0.ownBlock=some q) w w0) ?_ ?_
 ·refine CW.bS 21 ((m:Int)=0∨¬(pF l:Int)=(s.kind:Int)) ?_ ?_
  ·refine CW.region<|WL.m rfl<|WL.v (Y.eql rfl rfl)<|WL.m rfl ?_;refine dO ?_ ?_<;>intro hg12
   ·refine WL.o rfl rfl<|WL.o rfl rfl<|WL.o rfl rfl<|WL.o rfl rfl<|WL.o rfl rfl<|WL.o rfl rfl<|WL.o rfl rfl<|WL.o rfl rfl<|WL.v (Y.pick rfl rfl)<|WL.nil ⟨⟨_,rfl,?_⟩,rfl,Fr.cT⟩;exact aH
   ·obtain⟨a,x,rfl,hx,hxk,hma⟩:=hcell ai;rw [←hxk];refine WL.g rfl rfl (Y.move rfl)<|WL.g rfl rfl (Y.move rfl)<|WL.g rfl rfl (Y.tL (c:=m-1) rfl rfl ai ai)<|WL.g rfl rfl (Y.af underlying83 rfl rfl b4 ai)<|WL.g rfl rfl (Y.fieldAddr kJ rfl)<|WL.g rfl rfl (Y.ah underlying3 rfl hma.o6 rfl)<|WL.g rfl rfl (Y.move rfl)<|WL.g rfl rfl (Y.neq rfl rfl)<|WL.v (Y.pick rfl rfl)<|WL.nil ⟨⟨_,rfl,?_⟩,rfl,Fr.cT⟩;exact aH
  refine bp ?_ ?_<;>intro ht4
  ·refine CW.sr fun K5 hK5=>WL.m rfl<|WL.m rfl<|WL.v (Y.build rfl (si _ _))<|WL.st (St.buildSlice rfl (x9 _)) aw fun v25 w1 hR1=>?_;obtain⟨g22,rfl,hg22,hB22,hx1⟩:=hR1;have hz1:=hx1.size;refine WL.st (St.append (m:=1) (news:=my ⟨s.kind,0,[]⟩) UE UE vS rfl rfl (hO.ext hx1) (Fw.Src.one hB22 rfl) we (by rw [fi];omega)) aw fun v26 w2 hR2=>?_;obtain⟨hO2,hc2,hf2⟩:=hR2;have hz2:=hc2.size;obtain⟨A7,m7,c7,rfl⟩:=hO2.lens;have hon:=ur (l:=l) (k:=s.kind) (by rw [hlK];assumption);have hol:(cL l s.kind).length=m+1:=by rw [hon,List.length_append,hm];rfl
   have hO2:Own w2 TE 3 (.slice A7 m7 c7) (kE (cL l s.kind)):=by rw [hon];simpa [kE]using hO2
   have hf7:∀q,(Value.slice A7 m7 c7).ownBlock=some q→(Value.slice A m c).ownBlock=some q∨w.heap.size≤q:=fun q hq=>by
    rcases hf2 with h|h
    ·rw [h]at hq;exact .inl hq
    ·exact .inr (by have:=h q hq;omega)
   have hC3:aE (fun q=>u0.ownBlock=some q) w w2:=(Ext.aA (S:=(fun q=>u0.ownBlock=some q)) hx1).trans hc2 (fun q _ h=>by rw [hu0];exact h);refine WL.a rfl<|WL.nil (hK5 _ _ ?_);clear hK5;refine CW.region<|WL.m rfl<|WL.v (Y.add rfl rfl bB)<|WL.a rfl<|WL.nil ?_;exact⟨_,(by repeat (first|exact Fr.le.nil|refine Fr.le.cons rfl ?_|refine Fr.le.cons (by show some (Value.int .i64 _)=some (Value.int .i64 _);congr 2;omega) ?_)),hO2,(by rw [hu0];exact hf7),hC3⟩
  refine CW.skip ?_;have hon:=uj (l:=l) (k:=s.kind) (by rw [hlK];assumption);have hol:(cL l s.kind).length=m:=by rw [hon,hm]
  exact⟨_,(by repeat (first|exact Fr.le.nil|refine Fr.le.cons rfl ?_|refine Fr.le.cons (by show some (Value.int .i64 _)=some (Value.int .i64 _);congr 2;omega) ?_)),(by rw [hon];exact hO),(fun q hq=>.inl (by rw [hu0];exact hq)),aE.refl⟩
 rintro u w3 hj3;obtain⟨hO,hf,hC⟩:=hj3;obtain⟨A1,m1,c1,rfl⟩:=hO.lens;obtain⟨hm1,hcell1⟩:=rH hO;have hbd1:=hbd.open_ (k:=s.kind);obtain⟨x1,hx1,hxk⟩:=kq l s.kind;have hl1:=gq l s.kind;have hpos:0<m1:=by have:=(List.getElem?_eq_some_iff.1 hx1).1;omega
 obtain⟨a1,x2,rfl,hx2,_,hma1⟩:=hcell1 hpos;rw [←hm1,hx1]at hx2;obtain rfl:=Option.some.inj hx2;have hxb:=hbd1 x1 (List.mem_of_getElem? hx1);obtain⟨g1,hg1,_⟩:=hO.head (by
  intro h;have h2:=fi (cL l s.kind);rw [h]at h2;simp at h2;omega)
 injection hg1 with hg1
 subst hg1;have hset:=x6 hx1;rw [hm1]at hx1 hset;rw [hm1];refine CW.bK (X:=Unit) (fun _=>[(0,.slice (some ⟨g1,0,none⟩) m1 c1)]) (fun _ w0=>Own w0 TE 3 (.slice (some ⟨g1,0,none⟩) m1 c1) (kE (fZ l s))∧aE (fun q=>u0.ownBlock=some q) w w0) ?_ ?_
 ·refine CW.sr fun K7 hK7=>WL.m rfl<|WL.v (Y.eql rfl rfl)<|WL.nil (hK7 _ _ ?_);clear hK7;refine bp ?_ ?_<;>intro ht8
  ·refine CW.region<|WL.m rfl<|WL.m rfl<|WL.v (Y.tL (c:=m1-1) rfl rfl ai ai)<|WL.m rfl<|WL.m rfl<|WL.v (Y.tL (c:=m1-1) rfl rfl ai ai)<|WL.v (Y.af underlying83 rfl rfl b4 ai)<|WL.v (Y.fieldAddr fb rfl)<|WL.v (Y.ah underlying9 rfl hma1.lh rfl)<|WL.m rfl<|WL.v (Y.n4 rfl rfl ((by rw [bT,bT];omega)))<|WL.v (Y.af underlying83 rfl rfl b4 ai) ?_;refine WL.v (Y.fieldAddr fb rfl)<|WL.kZ (g:=g1) (pre:=kE ((cL l s.kind).take (m1-1))++[.int .i64 (x1.kind:Int),.int .i64 (x1.n:Int)]) (old:=[.string (bs x1.text)]) (post:=kE ((cL l s.kind).drop (m1-1+1))) (new:=[.string (bs x1.text++bs s.str)]) rfl (by rw [add_add,add_zero',List.length_append,fi,List.length_take,Nat.min_eq_left ai];rfl) rfl rfl aG (by rw [←(pO hx1 []).1];exact hO) j0 (dd rfl) (fun w4 hc4 hB4_=>?_);have hz4:=hc4.size;obtain⟨y,rfl⟩:∃y,s= .put y:=by
    have ht:(s.kind:Int)=3:=by assumption
    cases s with
    |put y=>exact⟨y,rfl⟩
    |_=>simp [iG.kind]at ht
   rw [show bs x1.text++bs (iG.put y).str=bs (x1.text++[y])from dw _ _,←(pO hx1 (x1.text++[y])).2]at hB4_;have hO2:Own w4 TE 3 (.slice (some ⟨g1,0,none⟩) m1 c1) (kE (fZ l (.put y))):=by rw [hset];exact hB4_
   refine WL.nil ?_;exact⟨(),Fr.ok,hO2,hC.trans hc4 (fun q _ h=>by have h:q=g1:=h;rw [h];rcases hf g1 rfl with h|h;exact h;omega)⟩
  refine CW.region<|WL.m rfl<|WL.m rfl<|WL.v (Y.tL (c:=m1-1) rfl rfl ai ai)<|WL.m rfl<|WL.m rfl<|WL.v (Y.tL (c:=m1-1) rfl rfl ai ai)<|WL.v (Y.af underlying83 rfl rfl b4 ai)<|WL.v (Y.fieldAddr eC rfl)<|WL.v (Y.ah underlying3 rfl hma1.ko rfl)<|WL.v (Y.add rfl rfl bB)<|WL.v (Y.af underlying83 rfl rfl b4 ai)<|WL.v (Y.fieldAddr eC rfl) ?_;refine WL.kZ (g:=g1) (pre:=kE ((cL l s.kind).take (m1-1))++[.int .i64 (x1.kind:Int)]) (old:=[.int .i64 (x1.n:Int)]) (post:=[.string (bs x1.text)]++kE ((cL l s.kind).drop (m1-1+1))) (new:=[.int .i64 ((x1.n:Int)+1)]) rfl (by rw [add_add,add_zero',List.length_append,fi,List.length_take,Nat.min_eq_left ai];rfl) rfl rfl aG (by rw [←(AM hx1 0).1];exact hO) j0 (dd rfl) (fun w5 hc5 hB5_=>?_);have hz5:=hc5.size;have hO2:Own w5 TE 3 (.slice (some ⟨g1,0,none⟩) m1 c1) (kE (fZ l s)):=by
   have e:((x1.n:Int)+1)=((x1.n+1:Nat):Int):=by omega
   rw [e,←(AM hx1 (x1.n+1)).2]at hB5_;have hmo:x1.more s=⟨x1.kind,x1.n+1,x1.text⟩:=by
    have ht:¬(s.kind:Int)=3:=by assumption
    cases s with
    |put y=>simp [iG.kind]at ht
    |_=>rfl
   rw [hset,hmo];exact hB5_
  refine WL.nil ?_;exact⟨(),Fr.ok,hO2,hC.trans hc5 (fun q _ h=>by have h:q=g1:=h;rw [h];rcases hf g1 rfl with h|h;exact h;omega)⟩
 rintro u w6 hj6;obtain⟨hO2,hC2⟩:=hj6;refine CW.sr fun K9 hK9=>WL.m rfl<|WL.a rfl<|WL.nil (hK9 _ _ ?_);clear hK9;refine CW.ret ⟨_,rfl,?_⟩;subst hu0;exact⟨hO2,hf,hC2⟩
end Go.Proofs.YtmehkigmnpjcjaaGreatDoor
