/- Parts of a proof: what its last text leans on. No condition. -/
import Derived.Test.YtmehkigmnpjcjaaGreatDoorK16
set_option linter.unusedSimpArgs false
set_option linter.unusedVariables false
namespace Go.Proofs.YtmehkigmnpjcjaaGreatDoor
open Go.RowKit Go.Fw Go.Pl Go.Proofs.Tryz
abbrev TH:TypeId:=223
def cX(s:V8)(rest:List UInt8)(n:Nat):List Value:= .bool true::(dF s.ws++(az rest++[.int .i64 (n:Int)]))
theorem xY(w:World):(Instr.build TS [(0,Value.int .u32 1779033703),(1,Value.int .u32 3144134277),(2,Value.int .u32 1013904242),(3,Value.int .u32 2773480762),(4,Value.int .u32 1359893119),(5,Value.int .u32 2600822924),(6,Value.int .u32 528734635),(7,Value.int .u32 1541459225)].toArray).run prog w= .ok (F1 gB) w:=run_build w _ _ _ aG
theorem zV(w:World):(Instr.build TH [(0,Value.bool true),(1,F1 gB)].toArray).run prog w= .ok (.agg (cX gB (List.replicate 64 0) 0).toArray) w:=run_build w _ _ _ aG
theorem CX(w:World):Calls prog 132 #[] w (cB fun v w'=>v=F1 gB∧Ext w w'):=by
 obtain⟨i9,hi9,hz9,_⟩:=nZ;refine gp 2 0 8 [] func132 rfl rfl rfl underlying219 rfl aG aL ve ?_;have hE:Ext w w:=aE.refl;refine CW.sr fun K1 hK1=>WL.alloc (hi9) (hz9) rfl aw fun g0 w1 hx1 hg0 hB0=>?_;have hlt0:=hB0.lt;have hz1:=hx1.size;have hE:=hE.ae hx1;refine WL.nil (hK1 _ _ ?_);clear hK1;refine CW.sr fun K2 hK2=>WL.v (Y.build rfl (xY _))<|WL.store (g:=g0) (pre:=[]) (old:=dF (List.replicate 8 0)) (post:=[]) (new:=dF gB.ws) rfl rfl rfl rfl aG (by simpa using hB0) (by first|(simp only [List.length_cons,List.length_nil,List.length_map,List.length_replicate,V8.ws,ag];done)|rfl|(simp [ag,aC];done)|(simp only [ag,aC];omega)) (l0) (fun w2 hc2 hB2_=>?_);have hz2:=hc2.size;have hE:=hE.step hc2 (fun k h=>by omega);have hB0:aK w2 g0 TS (dF gB.ws):=by simpa using hB2_
 refine WL.nil (hK2 _ _ ?_);clear hK2;refine CW.ret ?_;exact⟨_,_,rfl,hB0.mem,rfl,rfl,hE⟩
theorem F6(w:World):Calls prog 115 #[] w (cB fun v w'=>∃g,v= .pointer (some ⟨g,0,none⟩)∧w.heap.size≤g∧aK w' g TH (cX gB (List.replicate 64 0) 0)∧Ext w w'):=by
 refine ar 4 [0] [] func115 rfl rfl rfl aL ve ?_;have hE:Ext w w:=aE.refl;refine CW.sr fun K1 hK1=>WL.a rfl<|WL.nil (hK1 _ _ ?_);clear hK1;refine CW.sr fun K2 hK2=>WL.call func132 rfl rfl rfl (CX _) aL ?_;rintro v w1 ⟨rfl,hx1⟩;have hz1:=hx1.size;have hE:=hE.ae hx1;refine WL.v (Y.build rfl (zV _))<|WL.box rfl rfl aw fun g3 w2 hx2 hg3 hB3=>?_;have hlt3:=hB3.lt;have hz2:=hx2.size;have hE:=hE.ae hx2;refine WL.a rfl<|WL.nil (hK2 _ _ ?_);clear hK2;refine CW.ret ⟨_,rfl,?_⟩;exact⟨g3,rfl,by omega,hB3,hE⟩
end Go.Proofs.YtmehkigmnpjcjaaGreatDoor
namespace Go.Pl
open Go.Fw
theorem GL{xs ys:List UInt8}{i:Nat}(h:64*i+64≤xs.length):bY (xs++ys) i=bY xs i:=by
 rw [bY,bY,List.drop_append,List.take_append];rw [show 64-(xs.drop (64*i)).length=0 by rw [List.length_drop];omega,List.take_zero,List.append_nil]
theorem mI{xs ys:List UInt8}:∀{q:Nat},64*q≤xs.length→aZ (xs++ys) q=aZ xs q
 |0,_=>rfl
 |q+1,h=>by rw [aZ,aZ,mI ai,GL ai]
def iT(xs rest:List UInt8):Prop:=rest.length=64∧rest.take (xs.length % 64)=xs.drop (64*(xs.length/64))
def ez(xs rest ys:List UInt8):List UInt8:=rest.take (xs.length % 64)++ys++rest.drop (xs.length % 64+ys.length)
theorem qo{xs rest ys:List UInt8}(h:iT xs rest)(hk:xs.length % 64+ys.length≤64):(ez xs rest ys).length=64:=by
 rw [ez,List.length_append,List.length_append,List.length_take,List.length_drop,h.1];omega
theorem sy{xs rest ys:List UInt8}(h:iT xs rest)(hk:xs.length % 64+ys.length≤64):(ez xs rest ys).take (xs.length % 64+ys.length)=(xs++ys).drop (64*(xs.length/64)):=by
 have h1:=h.1;rw [ez,List.take_append_of_le_length (by rw [List.length_append,List.length_take];omega),List.take_of_length_le (by rw [List.length_append,List.length_take];omega),h.2,List.drop_append_of_le_length ai]
theorem BO{xs rest ys:List UInt8}(h:iT xs rest)(hk:xs.length % 64+ys.length<64):iT (xs++ys) (ez xs rest ys)∧aZ (xs++ys) ((xs++ys).length/64)=aZ xs (xs.length/64):=by
 have e1:(xs++ys).length=xs.length+ys.length:=List.length_append;have e2:(xs++ys).length % 64=xs.length % 64+ys.length:=by rw [e1];omega
 have e3:(xs++ys).length/64=xs.length/64:=by rw [e1];omega
 refine⟨⟨qo h ai,?_⟩,?_⟩
 ·rw [e2,e3];exact sy h ai
 ·rw [e3];exact mI ai
theorem CY{xs rest ys:List UInt8}(h:iT xs rest)(hk:xs.length % 64+ys.length=64):iT (xs++ys) (ez xs rest ys)∧aZ (xs++ys) ((xs++ys).length/64)=re (aZ xs (xs.length/64)) (ez xs rest ys):=by
 have e1:(xs++ys).length=xs.length+ys.length:=List.length_append;have e2:(xs++ys).length % 64=0:=by rw [e1];omega
 have e3:(xs++ys).length/64=xs.length/64+1:=by rw [e1];omega
 have hl:=qo h (ys:=ys) ai;refine⟨⟨hl,?_⟩,?_⟩
 ·rw [e2,e3,List.take_zero,List.drop_of_length_le (by rw [e1];omega)]
 ·rw [e3,aZ,mI ai];congr 1;have:=sy h (ys:=ys) ai;rw [hk,List.take_of_length_le ai]at this;rw [bY,←this,List.take_of_length_le ai]
theorem yI:iT [] (List.replicate 64 0):=⟨by simp,by simp⟩
end Go.Pl
namespace Go.Proofs.YtmehkigmnpjcjaaGreatDoor
open Go.RowKit Go.Fw Go.Pl Go.Proofs.Tryz
theorem Ee(d:Nat){t e:TypeId}(hT:prog.underlying t=some (.pointer e))(a:Addr)(w:World):(Op.equalIn (d+1) t (.pointer (some a)) (.pointer none)).run prog w= .ok false w:=by
 rw [Op.equalIn,Sem.run_bind,run_underlying hT];rfl
section
variable {n:NN} {fr:Fr} {w:World} {ty:TypeId} {x y:Operand} {t':TypeId}
theorem Y.mY{a:Addr}(hx:ev fr x=some (.pointer (some a)))(hy:ev fr y=some (.pointer none)):Yw prog n fr (.binOp .eql 201 x y t') ty w (.bool false) w:=
 Y.bin hx hy (by simp [eqGuard]) (by
  simp only [binOp,Op.equal,Sem.run_bind];rw [show Op.maxDepth=9999+1 from rfl,Ee 9999 underlying201];rfl)
end
section
variable {w:World} {a:Addr} {s:V8} {rest:List UInt8} {k:Nat}
theorem Mem.qX(h:Mem w a (cX s rest k)):w.cell? (a.add 0)=some (.bool true):=h 0 _ rfl
theorem Mem.qO(h:Mem w a (cX s rest k)):Mem w (a.add 1) (dF s.ws):=h.sub 1 fun j v hj=>by
 have hlt:=(List.getElem?_eq_some_iff.1 hj).1;rw [cX,Nat.add_comm,List.getElem?_cons_succ,List.getElem?_append_left hlt];exact hj
theorem Mem.xh(h:Mem w a (cX s rest k)):Mem w (a.add 9) (az rest):=h.sub 9 fun j v hj=>by
 have hlt:=(List.getElem?_eq_some_iff.1 hj).1;rw [cX,show 9+j=(8+j)+1 by omega,List.getElem?_cons_succ,List.getElem?_append_right (by show 8≤_;omega)];rw [show 8+j-(dF s.ws).length=j by show 8+j-8=j;omega,List.getElem?_append_left hlt];exact hj
theorem Mem.jq(hl:rest.length=64)(h:Mem w a (cX s rest k)):w.cell? (a.add 73)=some (.int .i64 (k:Int)):=h 73 _ (by
 rw [cX,List.getElem?_cons_succ,List.getElem?_append_right (by show 8≤72;omega)];rw [show 72-(dF s.ws).length=64 from rfl,List.getElem?_append_right (by rw [aS];omega),aS,hl];rfl)
end
end Go.Proofs.YtmehkigmnpjcjaaGreatDoor
namespace Go.Fw
open Go.RowKit
theorem By.drop{w:World}{a:Addr}{m c k:Nat}{bs:List UInt8}(h:By w (.slice (some a) m c) bs)(hk:k≤m):By w (.slice (if c=k then some a else(some a).map fun a=>a.add (k*1)) (m-k) (c-k)) (bs.drop k):=by
 obtain⟨hm,hmc,hcm⟩:=h.len;refine⟨_,_,_,rfl,by rw [List.length_drop,hm],by omega,by omega,fun h0=>?_,fun h0=>?_⟩
 ·obtain⟨a',e,hma⟩:=h.mem.1 ai;injection e with e;subst e
  rw [if_neg ai];refine⟨_,rfl,?_⟩;rw [Nat.mul_one];have:=hma.drop k;rwa [az,←List.map_drop]at this
 ·split at h0<;>simp at h0
theorem FM(g i j:Nat):(⟨g,i,none⟩:Addr).add j=⟨g,i+j,none⟩:=by unfold Addr.add;split<;>simp_all
end Go.Fw
namespace Go.Proofs.YtmehkigmnpjcjaaGreatDoor
open Go.RowKit Go.Fw Go.Pl Go.Proofs.Tryz
theorem mR:bh prog TH 0 0:=⟨_,_,1,underlying223,rfl,eO,by decide,rfl⟩
theorem j8:bh prog TH 1 1:=⟨_,_,8,underlying223,rfl,fX gB,by decide,rfl⟩
theorem mT:bh prog TH 2 9:=⟨_,_,64,underlying223,rfl,by kernel_rfl,by decide,rfl⟩
theorem eS:bh prog TH 3 73:=⟨_,_,1,underlying223,rfl,qw,by decide,rfl⟩
theorem Aq(s:V8)(rest:List UInt8)(n i k:Nat):cX s rest n=(.bool true::(dF s.ws++az (rest.take i)))++az ((rest.drop i).take k)++(az (rest.drop (i+k))++[.int .i64 (n:Int)]):=by
 have e:rest=rest.take i++((rest.drop i).take k++rest.drop (i+k)):=by rw [←List.drop_drop,List.take_append_drop,List.take_append_drop]
 conv=>lhs;rw [e]
 simp only [cX,cr,List.append_assoc,List.cons_append]
theorem BS(s:V8)(xs rest ys:List UInt8)(n:Nat):cX s (ez xs rest ys) n=(.bool true::(dF s.ws++az (rest.take (xs.length % 64))))++az ys++(az (rest.drop (xs.length % 64+ys.length))++[.int .i64 (n:Int)]):=by
 simp only [cX,ez,cr,List.append_assoc,List.cons_append]
set_option maxRecDepth 20000 in
set_option maxHeartbeats 1000000 in
theorem vd(g:Nat)(xs rest:List UInt8)(u:Value)(b:List UInt8)(w:World)(hB:aK w g TH (cX (aZ xs (xs.length/64)) rest xs.length))(hR:iT xs rest)(hb:By w u b)(hbo:b≠[]→∀k,u.ownBlock=some k→k≠g)(hK:Mem w ⟨1,0,none⟩ (dF eF))(hg0:g≠1)(hN:xs.length+b.length≤4611686018427387904):Calls prog 116 #[.pointer (some ⟨g,0,none⟩),u] w (cB fun v w'=>∃rest',aK w' g TH (cX (aZ (xs++b) ((xs++b).length/64)) rest' (xs++b).length)∧iT (xs++b) rest'∧aE (·=g) w w'):=by
 obtain⟨A,m,c,rfl⟩:=hb.lens;refine ar 57 [] [(0,.pointer (some ⟨g,0,none⟩)),(1,.slice A m c)] func116 rfl rfl rfl aL cz ?_;refine CW.seq fun K1 hK1=>?_;refine CW.bS 13 (False) ?_ ?_
 ·refine CW.region<|WL.m rfl<|WL.v (Y.mY rfl rfl)<|WL.m rfl ?_;refine dO ?_ ?_<;>intro hg7
  ·refine WL.o rfl rfl<|WL.o rfl rfl<|WL.o rfl rfl<|WL.o rfl rfl<|WL.o rfl rfl<|WL.v (Y.pick rfl rfl)<|WL.nil ⟨⟨_,rfl,?_⟩,rfl,Fr.cT⟩;exact aH
  ·refine WL.g rfl rfl (Y.move rfl)<|WL.g rfl rfl (Y.nilCheck rfl)<|WL.g rfl rfl (Y.fieldAddr mR rfl)<|WL.g rfl rfl (Y.ah underlying4 rfl (Mem.qX hB.mem) rfl)<|WL.g rfl rfl (Y.not rfl)<|WL.v (Y.pick rfl rfl)<|WL.nil ⟨⟨_,rfl,?_⟩,rfl,Fr.cT⟩;exact aH
 refine bp ?_ ?_<;>intro ht2
 ·refine CW.ret ⟨_,rfl,?_⟩;exact False.elim (by assumption)
 refine CW.skip ?_;refine hK1 _ _ ?_;clear hK1;refine CW.block ?_;refine CW.loop (X:=Nat×List UInt8×Option Addr×Nat×Nat) (fun x=>[(0,.pointer (some ⟨g,0,none⟩)),(1,.slice x.2.2.1 x.2.2.2.1 x.2.2.2.2)]) (fun x w0=>x.1≤b.length∧By w0 (.slice x.2.2.1 x.2.2.2.1 x.2.2.2.2) (b.drop x.1)∧(b≠[]→∀k,(Value.slice x.2.2.1 x.2.2.2.1 x.2.2.2.2).ownBlock=some k→k≠g)∧iT (xs++b.take x.1) x.2.1∧aK w0 g TH (cX (aZ (xs++b.take x.1) ((xs++b.take x.1).length/64)) x.2.1 (xs++b.take x.1).length)∧aE (·=g) w w0) (fun x=>b.length-x.1) (0,rest,A,m,c) Fr.ok ⟨Nat.zero_le _,by simpa using hb,hbo,by simpa using hR,by simpa using hB,aE.refl⟩ ?_;intro x w1 hl1;clear hB hR hb hbo;obtain⟨p,rest,A,m,c⟩:=x;dsimp only at hl1⊢;obtain⟨hp,hby,hbo,hR,hB,hC⟩:=hl1;obtain⟨hm,hmc,hcm⟩:=hby.len;unfold maxLen at hcm;rw [List.length_drop]at hm;obtain⟨ys,hys⟩:∃ys,ys=xs++b.take p:=⟨_,rfl⟩;rw [←hys]at hR hB;have hyl:ys.length=xs.length+p:=by rw [hys,List.length_append,List.length_take];omega
 refine CW.seq fun K3 hK3=>CW.sr fun K4 hK4=>WL.m rfl<|WL.v (Y.aq underlying142 rfl)<|WL.v (Y.gtr rfl rfl)<|WL.nil (hK4 _ _ ?_);clear hK4;refine bp ?_ ?_<;>intro ht5
 ·refine CW.skip ?_;refine hK3 _ _ ?_;clear hK3;refine CW.block<|CW.seq fun K6 hK6=>?_;obtain⟨a,rfl,hma⟩:=hby.mem.1 ai;obtain⟨k,hk⟩:∃k,k=min m (64-ys.length % 64):=⟨_,rfl⟩;have hzl:((b.drop p).take k).length=k:=by rw [List.length_take,List.length_drop];omega
  refine CW.held (fun _=>True) aG 12 rfl fun w2 hx2=>?_;have hS:True:=trivial;have hB:=hB.ext hx2;have hma:=hma.ext hx2;refine RH.tk 0 hS rfl (fun wq hq=>Y.move rfl)<|RH.tk 1 hS rfl (fun wq hq=>Y.nilCheck rfl)<|RH.tk 2 hS rfl (fun wq hq=>Y.fieldAddr mT rfl)<|RH.tk 3 hS rfl (fun wq hq=>Y.move rfl)<|RH.tk 4 hS rfl (fun wq hq=>Y.nilCheck rfl)<|RH.tk 5 hS rfl (fun wq hq=>Y.fieldAddr eS rfl)<|RH.tk 9 hS rfl (fun wq hq=>Y.move rfl)<|RH.one 6 aG ?_;refine RS.val rfl (Y.ah underlying3 rfl (Mem.jq hR.1 hB.mem) rfl) aw ⟨hS,?_⟩;refine RH.tk 7 hS rfl (fun wq hq=>Y.Cn (q:=64) rfl rfl aw)<|RH.tk 8 hS rfl (fun wq hq=>Y.pH underlying221 rfl rfl fx rfl ai)<|RH.one 10 aG ?_;refine RS.st rfl (St.copy (pre:= .bool true::(dF (aZ ys (ys.length/64)).ws++az (rest.take (ys.length % 64)))) (old:=az ((rest.drop (ys.length % 64)).take k)) (post:=az (rest.drop (ys.length % 64+k))++[.int .i64 (ys.length:Int)]) (news:=az ((b.drop p).take k)) underlying142 fx rfl (by
   rw [add_zero',FM];congr 1;rw [List.length_cons,List.length_append,aS,List.length_take,hR.1];show _=8+_+1;omega) rfl (by have:=hma.take k;rwa [az,←List.map_take]at this) (by rw [aS,hzl,hk]) (by rw [←Aq];exact hB) (by rw [aS,aS,hzl,List.length_take,List.length_drop,hR.1];omega) iW) aw fun v27 w3 hR3=>?_
  obtain⟨rfl,hc3,hB3⟩:=hR3;rw [←hk];have hB3:aK w3 g TH (cX (aZ ys (ys.length/64)) (ez ys rest ((b.drop p).take k)) ys.length):=by rw [BS,hzl];exact hB3
  have hrl:(ez ys rest ((b.drop p).take k)).length=64:=qo hR ai;refine⟨hS,?_⟩;refine RH.tk 11 hS rfl (fun wq hq=>Y.assign rfl)<|RH.done aG ?_;refine hK6 _ _ ?_;clear hK6;refine CW.sr fun K7 hK7=>WL.m rfl<|WL.v (Y.nilCheck rfl)<|WL.v (Y.fieldAddr eS rfl)<|WL.v (Y.ah underlying3 rfl (Mem.jq hrl hB3.mem) rfl)<|WL.m rfl<|WL.v (Y.add rfl rfl bB)<|WL.v (Y.nilCheck rfl)<|WL.v (Y.fieldAddr eS rfl)<|WL.store (g:=g) (pre:= .bool true::(dF (aZ ys (ys.length/64)).ws++az (ez ys rest ((b.drop p).take k)))) (old:=[.int .i64 (ys.length:Int)]) (post:=[]) (new:=[.int .i64 ((ys.length+k:Nat):Int)]) rfl (by
   rw [add_zero'];congr 1;rw [List.length_cons,List.length_append,aS,hrl];rfl) rfl rfl aG (by
   have e:cX (aZ ys (ys.length/64)) (ez ys rest ((b.drop p).take k)) ys.length=(.bool true::(dF (aZ ys (ys.length/64)).ws++az (ez ys rest ((b.drop p).take k))))++[.int .i64 (ys.length:Int)]++[]:=by simp [cX]
   rw [←e];exact hB3) (by first|(simp only [List.length_cons,List.length_nil,List.length_map,List.length_replicate,V8.ws,ag];done)|rfl|(simp [ag,aC];done)|(simp only [ag,aC];omega)) (dd rfl) (fun w4 hc4 hB4_=>?_)
  have hB4:aK w4 g TH (cX (aZ ys (ys.length/64)) (ez ys rest ((b.drop p).take k)) (ys.length+k)):=by
   have e:cX (aZ ys (ys.length/64)) (ez ys rest ((b.drop p).take k)) (ys.length+k)=(.bool true::(dF (aZ ys (ys.length/64)).ws++az (ez ys rest ((b.drop p).take k))))++[.int .i64 ((ys.length+k:Nat):Int)]++[]:=by simp [cX]
   rw [e];exact hB4_
  refine WL.nil (hK7 _ _ ?_);clear hK7;refine CW.sr fun K8 hK8=>WL.m rfl<|WL.m rfl<|WL.v (Y.gH underlying142 rfl rfl cg rfl ai)<|WL.a rfl<|WL.nil (hK8 _ _ ?_);clear hK8;refine CW.sr fun K9 hK9=>WL.m rfl<|WL.v (Y.nilCheck rfl)<|WL.v (Y.fieldAddr eS rfl)<|WL.v (Y.ah underlying3 rfl (Mem.jq hrl hB4.mem) rfl)<|WL.v (Y.Cn (q:=64) rfl rfl aw)<|WL.v (Y.eql rfl rfl)<|WL.nil (hK9 _ _ ?_);clear hK9;refine bp ?_ ?_<;>intro ht10
  ·refine CW.held (fun _=>True) aG 13 rfl fun w5 hx5=>?_;have hS:True:=trivial;have hB5:=hB4.ext hx5;refine RH.tk 0 hS rfl (fun wq hq=>Y.move rfl)<|RH.tk 1 hS rfl (fun wq hq=>Y.move rfl)<|RH.tk 2 hS rfl (fun wq hq=>Y.nilCheck rfl)<|RH.tk 3 hS rfl (fun wq hq=>Y.fieldAddr j8 rfl)<|RH.tk 5 hS rfl (fun wq hq=>Y.move rfl)<|RH.tk 6 hS rfl (fun wq hq=>Y.nilCheck rfl)<|RH.tk 7 hS rfl (fun wq hq=>Y.fieldAddr mT rfl)<|RH.tk 8 hS rfl (fun wq hq=>Y.lp underlying221 rfl fx)<|RH.one 4 aG ?_;refine RS.val rfl (Y.load underlying219 rfl (Mem.qO hB5.mem) (fX _) rfl) aw ⟨hS,?_⟩;refine RH.one 9 aG ?_;refine RS.call rfl (fun _ _ h=>by cases h) func133 rfl rfl rfl (Cw (aZ ys (ys.length/64)) _ (ez ys rest ((b.drop p).take k)) _ ⟨_,64,64,rfl,hrl,Nat.le_refl _,by decide,fun _=>⟨_,rfl,Mem.xh hB5.mem⟩,fun h=>by cases h⟩ hrl (((((hK.aA hC (fun h=>hg0 h.symm)).ext hx2).aA hc3 (fun h=>hg0 h.symm)).aA hc4 (fun h=>hg0 h.symm)).ext hx5)) aw fun v54 w6 hR6=>?_;obtain⟨rfl,hx6⟩:=hR6;have hB6:=hB5.ext hx6;refine⟨hS,?_⟩;refine RH.tk 10 hS rfl (fun wq hq=>Y.nilCheck rfl)<|RH.tk 11 hS rfl (fun wq hq=>Y.fieldAddr j8 rfl)<|RH.one 12 aG ?_;refine RS.store rfl (g:=g) (pre:=[.bool true]) (old:=dF (aZ ys (ys.length/64)).ws) (post:=az (ez ys rest ((b.drop p).take k))++[.int .i64 ((ys.length+k:Nat):Int)]) (new:=dF (re (aZ ys (ys.length/64)) (ez ys rest ((b.drop p).take k))).ws) rfl (by rw [add_zero'];rfl) rfl rfl aG (by
    have e:cX (aZ ys (ys.length/64)) (ez ys rest ((b.drop p).take k)) (ys.length+k)=[.bool true]++dF (aZ ys (ys.length/64)).ws++(az (ez ys rest ((b.drop p).take k))++[.int .i64 ((ys.length+k:Nat):Int)]):=by simp [cX]
    rw [←e];exact hB6) (by first|(simp only [List.length_cons,List.length_nil,List.length_map,V8.ws];done)|rfl) (l0) (fun w7 hc7 hB7_=>?_)
   have hB7:aK w7 g TH (cX (re (aZ ys (ys.length/64)) (ez ys rest ((b.drop p).take k))) (ez ys rest ((b.drop p).take k)) (ys.length+k)):=by
    have e:cX (re (aZ ys (ys.length/64)) (ez ys rest ((b.drop p).take k))) (ez ys rest ((b.drop p).take k)) (ys.length+k)=[.bool true]++dF (re (aZ ys (ys.length/64)) (ez ys rest ((b.drop p).take k))).ws++(az (ez ys rest ((b.drop p).take k))++[.int .i64 ((ys.length+k:Nat):Int)]):=by simp [cX]
    rw [e];exact hB7_
   refine⟨hS,?_⟩;refine RH.done aG ?_;obtain⟨hR2,hS2⟩:=CY hR (ys:=((b.drop p).take k)) (by rw [hzl];omega);have e1:xs++b.take (p+k)=ys++((b.drop p).take k):=by rw [List.take_add,←List.append_assoc,←hys]
   have e2:(ys++((b.drop p).take k)).length=ys.length+k:=by rw [List.length_append,hzl]
   refine⟨(p+k,ez ys rest ((b.drop p).take k),(if c=k then some a else(some a).map fun a=>a.add (k*1)),m-k,c-k),by show b.length-(p+k)<b.length-p;omega,Fr.ok,by show p+k≤b.length;omega,?_,?_,?_,?_,((((hC.trans hx2 (fun _ _ f=>f.elim)).trans hc3 (fun _ _ h=>h)).trans hc4 (fun _ _ h=>h)).trans (hx5.ae hx6) (fun _ _ f=>f.elim)).trans hc7 (fun _ _ h=>h)⟩
   ·show By _ _ (b.drop (p+k));rw [←List.drop_drop];exact By.drop (((((hby.ext hx2).aA hc3 (fun h j hj=>hbo (fun e=>h (by rw [e,List.drop_nil])) j hj)).aA hc4 (fun h j hj=>hbo (fun e=>h (by rw [e,List.drop_nil])) j hj)).ext (hx5.ae hx6)).aA hc7 (fun h j hj=>hbo (fun e=>h (by rw [e,List.drop_nil])) j hj)) ai
   ·intro h0 j hj;refine hbo h0 j ?_;revert hj;show(Value.slice (if c=k then some a else(some a).map fun a=>a.add (k*1)) (m-k) (c-k)).ownBlock=some j→_;split<;>simp [Value.ownBlock,block_add]
   ·show iT (xs++b.take (p+k)) _;rw [e1];exact hR2
   ·show aK _ g TH (cX (aZ (xs++b.take (p+k)) ((xs++b.take (p+k)).length/64)) _ (xs++b.take (p+k)).length);rw [e1,hS2,e2];exact hB7
  refine CW.skip ?_;obtain⟨hR2,hS2⟩:=BO hR (ys:=((b.drop p).take k)) (by rw [hzl];omega);have e1:xs++b.take (p+k)=ys++((b.drop p).take k):=by rw [List.take_add,←List.append_assoc,←hys]
  have e2:(ys++((b.drop p).take k)).length=ys.length+k:=by rw [List.length_append,hzl]
  refine⟨(p+k,ez ys rest ((b.drop p).take k),(if c=k then some a else(some a).map fun a=>a.add (k*1)),m-k,c-k),by show b.length-(p+k)<b.length-p;omega,Fr.ok,by show p+k≤b.length;omega,?_,?_,?_,?_,((hC.trans hx2 (fun _ _ f=>f.elim)).trans hc3 (fun _ _ h=>h)).trans hc4 (fun _ _ h=>h)⟩
  ·show By _ _ (b.drop (p+k));rw [←List.drop_drop];exact By.drop (((hby.ext hx2).aA hc3 (fun h j hj=>hbo (fun e=>h (by rw [e,List.drop_nil])) j hj)).aA hc4 (fun h j hj=>hbo (fun e=>h (by rw [e,List.drop_nil])) j hj)) ai
  ·intro h0 j hj;refine hbo h0 j ?_;revert hj;show(Value.slice (if c=k then some a else(some a).map fun a=>a.add (k*1)) (m-k) (c-k)).ownBlock=some j→_;split<;>simp [Value.ownBlock,block_add]
  ·show iT (xs++b.take (p+k)) _;rw [e1];exact hR2
  ·show aK _ g TH (cX (aZ (xs++b.take (p+k)) ((xs++b.take (p+k)).length/64)) _ (xs++b.take (p+k)).length);rw [e1,hS2,e2];exact hB4
 refine CW.exit ?_;refine⟨_,rfl,?_⟩;have hpe:p=b.length:=by omega
 rw [hpe,List.take_of_length_le (Nat.le_refl _)]at hys;subst hys;exact⟨rest,hB,hR,hC⟩
end Go.Proofs.YtmehkigmnpjcjaaGreatDoor
namespace Go.Proofs.YtmehkigmnpjcjaaGreatDoor
open Go.RowKit Go.Fw Go.Pl Go.Proofs.Tryz
theorem xZ(w:World):(Instr.makeSlice 142 (.int .i64 1) (.int .i64 128)).run prog w= .ok (.slice (some ⟨w.heap.size,0,none⟩) 1 128) (w.alloc (.cells (az (List.replicate 128 0)).toArray 5)):=by
 kernel_rfl
theorem qx{s:V8}{rest:List UInt8}{k:Nat}(h:rest.length=64):(cX s rest k).length=74:=by
 rw [cX,List.length_cons,List.length_append,List.length_append,aS,h];rfl
theorem tY{s:V8}{rest:List UInt8}{k:Nat}(h:rest.length=64):(prog.info? TH).map (·.size)=some (cX s rest k).length:=by
 rw [qx h];kernel_rfl
def EO:List Value:= .bool false::(dF (List.replicate 8 0)++(az (List.replicate 64 0)++[.int .i64 0]))
theorem BN:∃i:TypeInfo,prog.info? TH=some i∧i.zero=some (.agg EO.toArray)∧i.size=74:=by
 have h:(prog.info? TH).map (fun i=>(i.zero,i.size))=some (some (.agg EO.toArray),74):=by kernel_rfl
 cases hi:prog.info? TH with
 |none=>simp [hi]at h
 |some i=>simp [hi]at h;exact⟨i,rfl,h.1,h.2⟩
theorem C7{s:V8}{rest:List UInt8}{k:Nat}:∀u∈cX s rest k,u.oneCell'=true:=by
 intro u hu;simp only [cX,List.mem_cons,List.mem_append,List.not_mem_nil,or_false]at hu;rcases hu with rfl|hu|hu|rfl
 ·rfl
 ·exact l0 u hu
 ·exact iW u hu
 ·rfl
theorem tP{n:NN}{Φ:Exit→Fr→World→Prop}{fr:Fr}{w:World}{ops:Array Oper}{rest:List Oper}{d:Nat}{x:Operand}{ty ty':TypeId}{pos pos':String}{aft aft':Array Edge}{s:V8}{rs:List UInt8}{k:Nat}
  (hrl:rs.length=64) (hx:ev fr x=some (.agg (cX s rs k).toArray)) (hxd:x≠.tmp d) (hd:d<n.1)
  (h:∀g w',Ext w w'→w.heap.size≤g→aK w' g TH (cX s rs k)→WL prog ops n Φ rest ((d,.pointer (some ⟨g,0,none⟩))::fr) w'):
  WL prog ops n Φ (⟨some d,.alloc TH,ty,pos,aft,none⟩::⟨none,.store TH (.tmp d) x,ty',pos',aft',none⟩::rest) fr w:=by
 obtain⟨i,hi,hz,hs⟩:=BN;exact WL.dH (cs:=cX s rs k) (zs:=EO) hi hz rfl (by rw [hs,qx hrl]) (by rw [qx hrl];rfl) hx hxd rfl C7 hd h
section
variable {n:NN} {fr:Fr} {w:World} {ty:TypeId} {x y:Operand} {t':TypeId}
theorem xE:az [0]++az (List.replicate 127 0)=az (List.replicate 128 0):=by
 rw [←cr,List.singleton_append,←List.replicate_succ]
theorem St.GD:St prog n fr (.makeSlice 142 (.const (.int .i64 1)) (.const (.int .i64 128))) ty w (fun v w'=>∃g,v= .slice (some ⟨g,0,none⟩) 1 128∧w.heap.size≤g∧Own w' TB 1 v (az [0])∧Ext w w'):=fun a o' ho hty ha=>by
 refine⟨.slice (some ⟨w.heap.size,0,none⟩) 1 128,w.alloc (.cells (az (List.replicate 128 0)).toArray 5),?_,w.heap.size,rfl,Nat.le_refl _,.inr ⟨w.heap.size,1,128,az (List.replicate 127 0),(0,0),rfl,?_,by rw [aS];rfl,by decide,by decide,?_,fun o h=>by omega⟩,aE.alloc _⟩
 ·simp only [execOp,ho,Act.eval,Sem.run_bind,xZ];rfl
 ·rw [xE];exact heap_alloc_new w _
 ·rw [xE,aS,List.length_replicate]
theorem Y.D3{v:V8}{i:Nat}{z:UInt32}(hx:ev fr x=some (F1 v))(hy:ev fr y=some (.int .i64 (i:Int)))(hv:v.ws[i]? =some z):Yw prog n fr (.index TS x y) ty w (wd z) w:=fun b o' ho _ ha=>by
 have hlt:i<8:=(List.getElem?_eq_some_iff.1 hv).1;have h2:(part 192 (dF v.ws).toArray i).run prog w= .ok (wd z) w:=by
  simp [part,Tryz.isAgg192,hv]
 simp [execOp,ho,ha.ev hx,ha.ev hy,Instr.index,asIntOf,run_underlying underlying219,F1,hlt,b5 dh,h2]
end
end Go.Proofs.YtmehkigmnpjcjaaGreatDoor
namespace Go.Pl
open Go.Fw
theorem rM(v:V8)(x j:Nat)(hj:j<4):jy v (4*x+j)=(v.ws.getD x 0>>>UInt32.ofNat (24-8*j)).toUInt8:=by
 rw [jy,show(4*x+j)/4=x by omega,show(4*x+j) % 4=j by omega]
theorem DU(v:V8)(x:Nat):jy v (4*x)=(v.ws.getD x 0>>>UInt32.ofNat 24).toUInt8:=rM v x 0 aw
theorem DK(v:V8)(x:Nat):jy v (4*x+3)=(v.ws.getD x 0).toUInt8:=by
 rw [rM v x 3 aw];congr 1
theorem rz(v:V8){i:Nat}(h:i<32):az ((List.range i).map (jy v)++List.replicate (32-i) 0)=az ((List.range i).map (jy v))++[bc 0]++az (List.replicate (31-i) 0):=uw h _
theorem rB(v:V8){i:Nat}:az ((List.range (i+1)).map (jy v)++List.replicate (32-(i+1)) 0)=az ((List.range i).map (jy v))++[bc (jy v i)]++az (List.replicate (31-i) 0):=by
 rw [List.range_succ,List.map_append,show 32-(i+1)=31-i by omega,cr,cr];rfl
end Go.Pl
namespace Go.Proofs.YtmehkigmnpjcjaaGreatDoor
open Go.RowKit Go.Fw Go.Pl Go.Proofs.Tryz
set_option maxRecDepth 20000 in
set_option maxHeartbeats 2000000 in
theorem DZ(g:Nat)(xs rest:List UInt8)(w:World)(hB:aK w g TH (cX (aZ xs (xs.length/64)) rest xs.length))(hR:iT xs rest)(hK:Mem w ⟨1,0,none⟩ (dF eF))(hN:xs.length≤140737488351232):Calls prog 117 #[.pointer (some ⟨g,0,none⟩)] w (cB fun v w'=>v=cU (nA xs)∧Ext w w'):=by
 have hk0:(1:Nat)<w.heap.size:=hK.lt (fun h=>by cases h);have hpz:gP xs.length<64:=by unfold gP;omega
 obtain⟨id,hid,hzd,_⟩:=et;refine gp 92 2 32 [(0,.pointer (some ⟨g,0,none⟩))] func117 rfl rfl rfl underlying42 rfl aG aL du ?_;have hE:Ext w w:=aE.refl;refine CW.sr fun K1 hK1=>WL.alloc (hid) (hzd) rfl aw fun g2 w1 hx1 hg2 hB2=>?_;have hlt2:=hB2.lt;have hz1:=hx1.size;have hE:=hE.ae hx1;refine WL.nil (hK1 _ _ ?_);clear hK1;refine CW.sr fun K2 hK2=>WL.alloc (hid) (hzd) rfl aw fun g3 w2 hx2 hg3 hB3=>?_;have hlt3:=hB3.lt;have hz2:=hx2.size;have hE:=hE.ae hx2;have hB2:=hB2.ext hx2;refine WL.nil (hK2 _ _ ?_);clear hK2;refine CW.seq fun K3 hK3=>?_;refine CW.bS 17 (False) ?_ ?_
 ·refine CW.region<|WL.m rfl<|WL.v (Y.mY rfl rfl)<|WL.m rfl ?_;refine dO ?_ ?_<;>intro hg11
  ·refine WL.o rfl rfl<|WL.o rfl rfl<|WL.o rfl rfl<|WL.o rfl rfl<|WL.o rfl rfl<|WL.v (Y.pick rfl rfl)<|WL.nil ⟨⟨_,rfl,?_⟩,rfl,Fr.cT⟩;exact aH
  ·refine WL.g rfl rfl (Y.move rfl)<|WL.g rfl rfl (Y.nilCheck rfl)<|WL.g rfl rfl (Y.fieldAddr mR rfl)<|WL.g rfl rfl (Y.ah underlying4 rfl (Mem.qX (hB.ext hE).mem) rfl)<|WL.g rfl rfl (Y.not rfl)<|WL.v (Y.pick rfl rfl)<|WL.nil ⟨⟨_,rfl,?_⟩,rfl,Fr.cT⟩;exact aH
 refine bp ?_ ?_<;>intro ht4
 ·refine CW.sr fun K5 hK5=>WL.v (Y.load underlying42 rfl hB3.mem (aj _) rfl)<|WL.store (g:=g2) (pre:=[]) (old:=aN aD.zero) (post:=[]) (new:=aN aD.zero) rfl rfl rfl rfl (aj _) (by simpa using hB2) (by first|(simp only [List.length_cons,List.length_nil,List.length_map,List.length_replicate,V8.ws,ag];done)|rfl|(simp [ag,aC];done)|(simp only [ag,aC];omega)) (bV) (fun w3 hc3 hB3_=>?_);have hz3:=hc3.size;have hE:=hE.step hc3 (fun k h=>by omega);have hB3:=hB3.aA hc3 cq;refine WL.nil (hK5 _ _ ?_);clear hK5;refine CW.ret ?_;exact False.elim (by assumption)
 refine CW.skip ?_;refine hK3 _ _ ?_;clear hK3;refine CW.sr fun K6 hK6=>WL.m rfl<|WL.v (Y.nilCheck rfl)<|WL.v (Y.load underlying223 rfl (hB.ext hE).mem (tY hR.1) rfl) ?_;refine tP hR.1 rfl aL aw fun g4 w4 hx4 hg4 hB4=>?_;have hlt4:=hB4.lt;have hz4:=hx4.size;have hE:=hE.ae hx4;have hB2:=hB2.ext hx4;have hB3:=hB3.ext hx4;refine WL.nil (hK6 _ _ ?_);clear hK6;refine CW.sr fun K7 hK7=>WL.st (St.GD) aw fun v22 w5 hR5=>?_;obtain⟨g22,rfl,hg22,hO,hx5⟩:=hR5;have hz5:=hx5.size;have hE:=hE.ae hx5;have hB2:=hB2.ext hx5;have hB3:=hB3.ext hx5;have hB4:=hB4.ext hx5;refine WL.a rfl<|WL.nil (hK7 _ _ ?_);clear hK7;refine CW.sr fun K8 hK8=>WL.m rfl<|WL.v (Y.af underlying142 rfl rfl cg (i:=0) aw)<|WL.kZ (g:=g22) (pre:=[]) (old:=az [0]) (post:=[]) (new:=az [128]) rfl (by rw [add_zero'];rfl) rfl rfl aG (by simpa using hO) (by first|(simp only [List.length_cons,List.length_nil,List.length_map,List.length_replicate,V8.ws,ag];done)|rfl|(simp [ag,aC];done)|(simp only [ag,aC];omega)) (iW) (fun w6 hc6 hB6_=>?_);have hz6:=hc6.size;have hE:=hE.step hc6 (fun k h=>by omega);have hB2:=hB2.aA hc6 cq;have hB3:=hB3.aA hc6 cq;have hB4:=hB4.aA hc6 cq;have hO:Own w6 TB 1 (.slice (some ⟨g22,0,none⟩) 1 128) (az [128]):=by simpa using hB6_
 have hfu:∀k,(Value.slice (some ⟨g22,0,none⟩) 1 128).ownBlock=some k→w4.heap.size≤k:=fun k h=>by simp [Value.ownBlock]at h;omega
 refine WL.nil (hK8 _ _ ?_);clear hK8;refine CW.seq fun K9 hK9=>?_;refine CW.block ?_;refine CW.loop (X:=Nat×Value) (fun x=>[(0,.pointer (some ⟨g,0,none⟩)),(2,.pointer (some ⟨g2,0,none⟩)),(3,.pointer (some ⟨g3,0,none⟩)),(4,.pointer (some ⟨g4,0,none⟩)),(5,x.2)]) (fun x w0=>x.1≤gP xs.length∧Ext w w0∧aK w0 g2 rj (aN aD.zero)∧aK w0 g3 rj (aN aD.zero)∧aK w0 g4 TH (cX (aZ xs (xs.length/64)) rest xs.length)∧Own w0 TB 1 x.2 (az (128::List.replicate x.1 0))∧(∀k,x.2.ownBlock=some k→w4.heap.size≤k)∧w4.heap.size≤w0.heap.size) (fun x=>gP xs.length-x.1) (0,.slice (some ⟨g22,0,none⟩) 1 128) Fr.ok ⟨Nat.zero_le _,hE,hB2,hB3,hB4,hO,hfu,by show w4.heap.size≤_;omega⟩ ?_;intro x w7 hl7;clear hE hB2 hB3 hB4 hO hfu;obtain⟨x,u⟩:=x;dsimp only at hl7⊢;obtain⟨hx,hE,hB2,hB3,hB4,hO,hfu,hzz⟩:=hl7;obtain⟨B,mb,cb,rfl⟩:=hO.lens;have hlm:=hO.by.len.1
 simp only [List.length_cons,List.length_replicate]at hlm;have hz7:=hE.size;refine CW.seq fun K10 hK10=>CW.sr fun K11 hK11=>WL.m rfl<|WL.v (Y.nilCheck rfl)<|WL.v (Y.fieldAddr eS rfl)<|WL.v (Y.ah underlying3 rfl (Mem.jq hR.1 (hB.ext hE).mem) rfl)<|WL.m rfl<|WL.v (Y.aq underlying142 rfl)<|WL.v (Y.add rfl rfl bB)<|WL.v (Y.add rfl rfl bB)<|WL.v (Y.Cn (p:=xs.length+mb+8) (q:=64) rfl rfl aw)<|WL.v (Y.neq rfl rfl)<|WL.nil (hK11 _ _ ?_);clear hK11;refine bp ?_ ?_<;>intro ht12
 ·refine CW.skip ?_;refine hK10 _ _ ?_;clear hK10;refine CW.block<|CW.region<|WL.m rfl<|WL.st (St.buildSlice rfl (Bg _)) aw fun v36 w8 hR8=>?_;obtain⟨g36,rfl,hg36,hB36,hx8⟩:=hR8;have hz8:=hx8.size;have hE:=hE.ae hx8;have hB2:=hB2.ext hx8;have hB3:=hB3.ext hx8;have hB4:=hB4.ext hx8;have hO:=hO.ext hx8;refine WL.st (St.app (xs:=128::List.replicate x 0) (ys:=[0]) underlying142 underlying142 jl rfl rfl hO (Src.arr (ys:=[0]) hB36.mem) (by simp;omega)) aw fun v37 w9 hR9=>?_;obtain⟨hO9,hc9,hf9⟩:=hR9;have hz9:=hc9.size;have hE:=hE.step hc9 (fun k h=>by have:=hfu k h;omega);have hB2:=hB2.aA hc9 (fun h=>by have:=hfu _ h;omega);have hB3:=hB3.aA hc9 (fun h=>by have:=hfu _ h;omega);have hB4:=hB4.aA hc9 (fun h=>by have:=hfu _ h;omega);have hf9:∀k,v37.ownBlock=some k→w4.heap.size≤k:=by
   rcases hf9 with h|h
   ·intro k hk;rw [h]at hk;exact hfu k hk
   ·intro k hk;have:=h k hk;omega
  refine WL.a rfl<|WL.nil ?_;have hlt:x<gP xs.length:=by unfold gP at hx⊢;omega
  refine⟨(x+1,v37),by show gP xs.length-(x+1)<gP xs.length-x;omega,Fr.ok,by show x+1≤gP xs.length;omega,hE,hB2,hB3,hB4,?_,hf9,by omega⟩;show Own _ TB 1 v37 (az (128::List.replicate (x+1) 0));rw [List.replicate_succ',←List.cons_append];exact hO9
 refine CW.exit ?_;refine hK9 _ _ ?_;clear hK9;refine CW.seq fun K13 hK13=>CW.sr fun K14 hK14=>WL.m rfl<|WL.nil (hK14 _ _ ?_);clear hK14;refine CW.block ?_;refine CW.loop (X:=Nat×Value) (fun x=>[(0,.pointer (some ⟨g,0,none⟩)),(2,.pointer (some ⟨g2,0,none⟩)),(3,.pointer (some ⟨g3,0,none⟩)),(4,.pointer (some ⟨g4,0,none⟩)),(5,x.2),(38,.int .i64 (x.1:Int))]) (fun x w0=>x.1≤8∧Ext w w0∧aK w0 g2 rj (aN aD.zero)∧aK w0 g3 rj (aN aD.zero)∧aK w0 g4 TH (cX (aZ xs (xs.length/64)) rest xs.length)∧Own w0 TB 1 x.2 (az (128::List.replicate (gP xs.length) 0++(List.range x.1).map (jK xs.length)))∧(∀k,x.2.ownBlock=some k→w4.heap.size≤k)∧w4.heap.size≤w0.heap.size) (fun x=>8-x.1) (0,.slice B mb cb) Fr.ok ⟨Nat.zero_le _,hE,hB2,hB3,hB4,(by rw [show x=gP xs.length by(unfold gP at hx⊢;omega)]at hO;simpa using hO),hfu,hzz⟩ ?_;intro x w10 hl10;clear hE hB2 hB3 hB4 hO hfu hzz hx;obtain⟨x,u⟩:=x;dsimp only at hl10⊢;obtain⟨hx,hE,hB2,hB3,hB4,hO,hfu,hzz⟩:=hl10;obtain⟨B,mb,cb,rfl⟩:=hO.lens;have hlm:=hO.by.len.1
 simp only [List.length_append,List.length_cons,List.length_replicate,List.length_map,List.length_range]at hlm;have hz10:=hE.size;refine CW.sr fun K15 hK15=>WL.v (Y.lss rfl rfl)<|WL.nil (hK15 _ _ ?_);clear hK15;refine CW.seq fun K16 hK16=>?_;refine bp ?_ ?_<;>intro ht17
 ·refine CW.skip ?_;refine hK16 _ _ ?_;clear hK16;refine CW.seq fun K18 hK18=>?_;refine CW.block<|CW.sr fun K19 hK19=>WL.m rfl<|WL.a rfl<|WL.nil (hK19 _ _ ?_);clear hK19;refine CW.region<|WL.m rfl<|WL.m rfl<|WL.v (Y.nilCheck rfl)<|WL.v (Y.fieldAddr eS rfl)<|WL.v (Y.ah underlying3 rfl (Mem.jq hR.1 (hB.ext hE).mem) rfl)<|WL.v (Y.de underlying3 underlying214 rfl)<|WL.v (Y.mul_k rfl rfl)<|WL.m rfl<|WL.v (Y.mul rfl rfl bB)<|WL.v (Y.sub rfl rfl bB)<|WL.v (Y.shr rfl rfl (r:=((xs.length*8/2^(56-8*x):Nat):Int)) ai (by rw [EU ai,show(56-8*(x:Int))=((56-8*x:Nat):Int)by omega];exact Da _ _ ai))<|WL.v (Y.de underlying214 underlying5 rfl) ?_;refine WL.st (St.buildSlice rfl (Bg _)) aw fun v53 w11 hR11=>?_;obtain⟨g53,rfl,hg53,hB53,hx11⟩:=hR11;have hz11:=hx11.size;have hE:=hE.ae hx11;have hB2:=hB2.ext hx11;have hB3:=hB3.ext hx11;have hB4:=hB4.ext hx11;have hO:=hO.ext hx11;rw [qR]at hB53;refine WL.st (St.app (ys:=[jK xs.length x]) underlying142 underlying142 jl rfl rfl hO (Src.arr (ys:=[jK xs.length x]) hB53.mem) (by simp;omega)) aw fun v54 w12 hR12=>?_;obtain⟨hO12,hc12,hf12⟩:=hR12;have hz12:=hc12.size;have hE:=hE.step hc12 (fun k h=>by have:=hfu k h;omega);have hB2:=hB2.aA hc12 (fun h=>by have:=hfu _ h;omega);have hB3:=hB3.aA hc12 (fun h=>by have:=hfu _ h;omega);have hB4:=hB4.aA hc12 (fun h=>by have:=hfu _ h;omega);have hf12:∀k,v54.ownBlock=some k→w4.heap.size≤k:=by
   rcases hf12 with h|h
   ·intro k hk;rw [h]at hk;exact hfu k hk
   ·intro k hk;have:=h k hk;omega
  refine WL.a rfl<|WL.nil (hK18 _ _ ?_);clear hK18;refine CW.region<|WL.v (Y.add rfl rfl bB)<|WL.m rfl<|WL.nil ?_;refine⟨(x+1,v54),by show 8-(x+1)<8-x;omega,Fr.ok,by show x+1≤8;omega,hE,hB2,hB3,hB4,?_,hf12,by omega⟩;show Own _ TB 1 v54 (az (128::List.replicate (gP xs.length) 0++(List.range (x+1)).map (jK xs.length)));rw [List.range_succ,List.map_append,←List.append_assoc];exact hO12
 refine CW.exit ?_;refine hK13 _ _ ?_;clear hK13;refine CW.sr fun K20 hK20=>WL.m rfl<|WL.call func116 rfl rfl rfl (vd g4 xs rest _ (Fc xs.length) _ hB4 hR (by rw [show x=8 by omega]at hO;exact hO.by) (fun _ k hk=>by have:=hfu k hk;omega) (hK.ext hE) ai (by rw [r2];omega)) aL ?_;rintro v57 w13 hR13;obtain⟨rest2,hB4,hR2,hc13⟩:=hR13;have hz13:=hc13.size;have hE:=hE.step hc13 (fun k h=>by omega);have hB2:=hB2.aA hc13 cq;have hB3:=hB3.aA hc13 cq;have hww:xs++Fc xs.length=bG xs:=rfl;rw [hww]at hB4;refine WL.nil (hK20 _ _ ?_);clear hK20;refine CW.seq fun K21 hK21=>CW.seq fun K22 hK22=>?_;have hB3:=(show aK w13 g3 rj (az ((List.range (4*0)).map (jy (aZ (bG xs) ((bG xs).length/64)))++List.replicate (32-4*0) 0))by
  have e:aN aD.zero=az (List.replicate 32 0):=rfl;rw [e]at hB3;simpa using hB3)
 refine CW.region<|WL.v (Y.fieldAddr j8 rfl)<|WL.v (Y.load underlying219 rfl (Mem.qO hB4.mem) (fX _) rfl)<|WL.m rfl<|WL.nil (hK22 _ _ ?_);clear hK22;refine CW.block ?_;refine CW.loop (X:=Nat) (fun x=>[(2,.pointer (some ⟨g2,0,none⟩)),(3,.pointer (some ⟨g3,0,none⟩)),(59,F1 (aZ (bG xs) ((bG xs).length/64))),(60,.int .i64 (x:Int))]) (fun x w0=>x≤8∧Ext w w0∧aK w0 g2 rj (aN aD.zero)∧aK w0 g3 rj (az ((List.range (4*x)).map (jy (aZ (bG xs) ((bG xs).length/64)))++List.replicate (32-4*x) 0))∧aK w0 g4 TH (cX (aZ (bG xs) ((bG xs).length/64)) rest2 (bG xs).length)) (fun x=>8-x) 0 Fr.ok ⟨Nat.zero_le _,hE,hB2,hB3,hB4⟩ ?_;intro x w14 hl14;clear hE hB2 hB3 hB4 hO hfu hx;obtain⟨hx,hE,hB2,hB3,hB4⟩:=hl14;have hz14:=hE.size;refine CW.sr fun K23 hK23=>WL.v (Y.lss rfl rfl)<|WL.nil (hK23 _ _ ?_);clear hK23;refine CW.seq fun K24 hK24=>?_;refine bp ?_ ?_<;>intro ht25
 ·refine CW.skip ?_;refine hK24 _ _ ?_;clear hK24;refine CW.seq fun K26 hK26=>?_;refine CW.block<|CW.sr fun K27 hK27=>WL.m rfl<|WL.v (Y.D3 rfl rfl (r8 ai))<|WL.a rfl<|WL.a rfl<|WL.nil (hK27 _ _ ?_);clear hK27;refine CW.region<|WL.m rfl<|WL.v (Y.mul rfl rfl bB)<|WL.m rfl<|WL.v (Y.mul rfl rfl bB)<|WL.v (Y.add rfl rfl bB)<|WL.m rfl<|WL.v (Y.mul rfl rfl bB)<|WL.v (Y.add rfl rfl bB)<|WL.m rfl<|WL.v (Y.mul rfl rfl bB)<|WL.v (Y.add rfl rfl bB)<|WL.m rfl ?_;refine WL.v (Y.tQ 24 rfl rfl rfl aw)<|WL.v (Y.tl underlying192 underlying5 rfl)<|WL.m rfl<|WL.v (Y.tQ 16 rfl rfl rfl aw)<|WL.v (Y.tl underlying192 underlying5 rfl)<|WL.m rfl<|WL.v (Y.tQ 8 rfl rfl rfl aw)<|WL.v (Y.tl underlying192 underlying5 rfl)<|WL.m rfl<|WL.v (Y.tl underlying192 underlying5 rfl)<|WL.v (Y.aW underlying42 rfl rfl cg (i:=4*x) ai)<|WL.store (g:=g3) (pre:=az ((List.range (4*x)).map (jy (aZ (bG xs) ((bG xs).length/64))))) (old:=[bc 0]) (post:=az (List.replicate (31-(4*x)) 0)) (new:=[bc (((aZ (bG xs) ((bG xs).length/64)).ws.getD x 0>>>UInt32.ofNat 24).toUInt8)]) rfl (by rw [add_zero',aS,List.length_map,List.length_range,Nat.mul_one]) rfl rfl aG (by rw [←rz _ ai];exact hB3) (by first|(simp only [List.length_cons,List.length_nil,List.length_map,List.length_replicate,V8.ws,ag];done)|rfl|(simp [ag,aC];done)|(simp only [ag,aC];omega)) (dd rfl) (fun w15 hc15 hB15_=>?_);have hz15:=hc15.size;have hE:=hE.step hc15 (fun k h=>by omega);have hB2:=hB2.aA hc15 cq;have hB4:=hB4.aA hc15 cq;have hB3:=(show aK w15 g3 rj (az ((List.range (4*x+1)).map (jy (aZ (bG xs) ((bG xs).length/64)))++List.replicate (32-(4*x+1)) 0))by rw [rB,DU];exact hB15_);refine WL.v (Y.aW underlying42 rfl rfl cg (i:=4*x+1) ai)<|WL.store (g:=g3) (pre:=az ((List.range (4*x+1)).map (jy (aZ (bG xs) ((bG xs).length/64))))) (old:=[bc 0]) (post:=az (List.replicate (31-(4*x+1)) 0)) (new:=[bc (((aZ (bG xs) ((bG xs).length/64)).ws.getD x 0>>>UInt32.ofNat 16).toUInt8)]) rfl (by rw [add_zero',aS,List.length_map,List.length_range,Nat.mul_one]) rfl rfl aG (by rw [←rz _ ai];exact hB3) (by first|(simp only [List.length_cons,List.length_nil,List.length_map,List.length_replicate,V8.ws,ag];done)|rfl|(simp [ag,aC];done)|(simp only [ag,aC];omega)) (dd rfl) (fun w16 hc16 hB16_=>?_);have hz16:=hc16.size;have hE:=hE.step hc16 (fun k h=>by omega);have hB2:=hB2.aA hc16 cq;have hB4:=hB4.aA hc16 cq;have hB3:=(show aK w16 g3 rj (az ((List.range (4*x+1+1)).map (jy (aZ (bG xs) ((bG xs).length/64)))++List.replicate (32-(4*x+1+1)) 0))by rw [rB,rM _ _ _ aw];exact hB16_);refine WL.v (Y.aW underlying42 rfl rfl cg (i:=4*x+2) ai)<|WL.store (g:=g3) (pre:=az ((List.range (4*x+2)).map (jy (aZ (bG xs) ((bG xs).length/64))))) (old:=[bc 0]) (post:=az (List.replicate (31-(4*x+2)) 0)) (new:=[bc (((aZ (bG xs) ((bG xs).length/64)).ws.getD x 0>>>UInt32.ofNat 8).toUInt8)]) rfl (by rw [add_zero',aS,List.length_map,List.length_range,Nat.mul_one]) rfl rfl aG (by rw [←rz _ ai];exact hB3) (by first|(simp only [List.length_cons,List.length_nil,List.length_map,List.length_replicate,V8.ws,ag];done)|rfl|(simp [ag,aC];done)|(simp only [ag,aC];omega)) (dd rfl) (fun w17 hc17 hB17_=>?_);have hz17:=hc17.size;have hE:=hE.step hc17 (fun k h=>by omega);have hB2:=hB2.aA hc17 cq;have hB4:=hB4.aA hc17 cq;have hB3:=(show aK w17 g3 rj (az ((List.range (4*x+2+1)).map (jy (aZ (bG xs) ((bG xs).length/64)))++List.replicate (32-(4*x+2+1)) 0))by rw [rB,rM _ _ _ aw];exact hB17_);refine WL.v (Y.aW underlying42 rfl rfl cg (i:=4*x+3) ai)<|WL.store (g:=g3) (pre:=az ((List.range (4*x+3)).map (jy (aZ (bG xs) ((bG xs).length/64))))) (old:=[bc 0]) (post:=az (List.replicate (31-(4*x+3)) 0)) (new:=[bc (((aZ (bG xs) ((bG xs).length/64)).ws.getD x 0).toUInt8)]) rfl (by rw [add_zero',aS,List.length_map,List.length_range,Nat.mul_one]) rfl rfl aG (by rw [←rz _ ai];exact hB3) (by first|(simp only [List.length_cons,List.length_nil,List.length_map,List.length_replicate,V8.ws,ag];done)|rfl|(simp [ag,aC];done)|(simp only [ag,aC];omega)) (dd rfl) (fun w18 hc18 hB18_=>?_);have hz18:=hc18.size;have hE:=hE.step hc18 (fun k h=>by omega);have hB2:=hB2.aA hc18 cq;have hB4:=hB4.aA hc18 cq;have hB3:=(show aK w18 g3 rj (az ((List.range (4*x+3+1)).map (jy (aZ (bG xs) ((bG xs).length/64)))++List.replicate (32-(4*x+3+1)) 0))by rw [rB,DK];exact hB18_);refine WL.nil (hK26 _ _ ?_);clear hK26;refine CW.region<|WL.v (Y.add rfl rfl bB)<|WL.m rfl<|WL.nil ?_;refine⟨x+1,by show 8-(x+1)<8-x;omega,Fr.ok,by show x+1≤8;omega,hE,hB2,?_,hB4⟩;rw [show 4*(x+1)=4*x+3+1 by omega];exact hB3
 refine CW.exit ?_;refine hK21 _ _ ?_;clear hK21;refine CW.seq fun K28 hK28=>?_;have hB3:=(show aK w14 g3 rj (aN (nA xs))by
  have e:aN (nA xs)=az (sj (aZ (bG xs) ((bG xs).length/64))):=rfl;rw [e,sj];rw [show x=8 by omega]at hB3;simpa using hB3)
 refine CW.region<|WL.v (Y.load underlying42 rfl hB3.mem (aj _) rfl)<|WL.store (g:=g2) (pre:=[]) (old:=aN aD.zero) (post:=[]) (new:=aN (nA xs)) rfl rfl rfl rfl (aj _) (by simpa using hB2) (by first|(simp only [List.length_cons,List.length_nil,List.length_map,List.length_replicate,V8.ws,ag];done)|rfl|(simp [ag,aC];done)|(simp only [ag,aC];omega)) (bV) (fun w19 hc19 hB19_=>?_);have hz19:=hc19.size;have hE:=hE.step hc19 (fun k h=>by omega);have hB3:=hB3.aA hc19 cq;have hB4:=hB4.aA hc19 cq;have hB2:aK w19 g2 rj (aN (nA xs)):=by simpa using hB19_
 refine WL.nil (hK28 _ _ ?_);clear hK28;refine CW.ret ?_;exact⟨_,_,rfl,hB2.mem,ag _,rfl,hE⟩
end Go.Proofs.YtmehkigmnpjcjaaGreatDoor
namespace Go.Proofs.YtmehkigmnpjcjaaGreatDoor
open Go.RowKit Go.Fw Go.Pl Go.Proofs.Tryz
theorem GP(u:Value)(b:List UInt8)(w:World)(hb:By w u b)(hbl:b≠[]→∀k,u.ownBlock=some k→k<w.heap.size)(hK:Mem w ⟨1,0,none⟩ (dF eF))(hr:b.length≤140737488351232):Calls prog 97 #[u] w (cB fun v w'=>v=cU (nA b)∧Ext w w'):=by
 obtain⟨A,m,c,rfl⟩:=hb.lens;have hk0:(1:Nat)<w.heap.size:=hK.lt (fun h=>by cases h);obtain⟨id,hid,hzd,_⟩:=et;refine gp 10 2 32 [(0,.slice A m c)] func97 rfl rfl rfl underlying42 rfl aG aL du ?_;have hE:Ext w w:=aE.refl;refine CW.sr fun K1 hK1=>WL.alloc (hid) (hzd) rfl aw fun g2 w1 hx1 hg2 hB2=>?_;have hlt2:=hB2.lt;have hz1:=hx1.size;have hE:=hE.ae hx1;refine WL.nil (hK1 _ _ ?_);clear hK1;refine CW.sr fun K2 hK2=>WL.call func115 rfl rfl rfl (F6 _) aL ?_;rintro v4 w2 hR2;obtain⟨g4,rfl,hg4,hB4,hx2⟩:=hR2;have hz2:=hx2.size;have hE:=hE.ae hx2;have hB2:=hB2.ext hx2;refine WL.a rfl<|WL.nil (hK2 _ _ ?_);clear hK2;refine CW.sr fun K3 hK3=>WL.m rfl<|WL.m rfl<|WL.call func116 rfl rfl rfl (vd g4 [] (List.replicate 64 0) _ b _ hB4 yI (hb.ext hE) (fun h k hk=>by have:=hbl h k hk;omega) (hK.ext hE) ai (by simp;omega)) aL ?_;rintro v7 w3 hR3;obtain⟨rest,hB4,hR4,hc3⟩:=hR3;rw [List.nil_append]at hB4 hR4;have hz3:=hc3.size;have hE:=hE.step hc3 (fun k h=>by omega);have hB2:=hB2.aA hc3 (fun h=>by have:=hB2.lt;omega);refine WL.nil (hK3 _ _ ?_);clear hK3;refine CW.sr fun K4 hK4=>WL.m rfl<|WL.call func117 rfl rfl rfl (DZ g4 b rest _ hB4 hR4 (hK.ext hE) hr) aL ?_;rintro v w4 ⟨rfl,hx4⟩;have hz4:=hx4.size;have hE:=hE.ae hx4;have hB2:=hB2.ext hx4;refine WL.store (g:=g2) (pre:=[]) (old:=aN aD.zero) (post:=[]) (new:=aN (nA b)) rfl rfl rfl rfl (aj _) (by simpa using hB2) (by first|(simp only [List.length_cons,List.length_nil,List.length_map,List.length_replicate,V8.ws,ag];done)|rfl|(simp [ag,aC];done)|(simp only [ag,aC];omega)) (bV) (fun w5 hc5 hB5_=>?_);have hz5:=hc5.size;have hE:=hE.step hc5 (fun k h=>by omega);have hB2:aK w5 g2 rj (aN (nA b)):=by simpa using hB5_
 refine WL.nil (hK4 _ _ ?_);clear hK4;refine CW.ret ?_;exact⟨_,_,rfl,hB2.mem,ag _,rfl,hE⟩
end Go.Proofs.YtmehkigmnpjcjaaGreatDoor
namespace Go.Proofs.YtmehkigmnpjcjaaGreatDoor
open Go.RowKit Go.Fw Go.Pl Go.Proofs.Tryz
def eH(c:bx):aD:=if eY c=0 then nA (tT c)else aD.zero
theorem Ih(u:Value)(c:bx)(w:World)(hc:Bh w u c)(hK:Mem w ⟨1,0,none⟩ (dF eF)):Calls prog 76 #[u] w (cB fun v w'=>v= .tuple #[cU (eH c),.int .i64 (eY c)]∧Ext w w'):=by
 have hc0:=hc;obtain⟨pv,ov,rfl,_⟩:=hc;obtain⟨id,hid,hzd,_⟩:=et;refine dV 17 2 32 [3] [(0,.agg (dt pv c.author c.note ov).toArray)] func76 rfl rfl rfl underlying42 rfl aG aL du ?_;have hE:Ext w w:=aE.refl;refine CW.sr fun K1 hK1=>WL.box rfl rfl aw fun g1 w1 hx1 hg1 hB1=>?_;have hlt1:=hB1.lt;have hz1:=hx1.size;have hE:=hE.ae hx1;refine WL.alloc (hid) (hzd) rfl aw fun g2 w2 hx2 hg2 hB2=>?_;have hlt2:=hB2.lt;have hz2:=hx2.size;have hE:=hE.ae hx2;have hB1:=hB1.ext hx2;refine WL.a rfl<|WL.nil (hK1 _ _ ?_);clear hK1;refine CW.sr fun K2 hK2=>WL.v (Y.load underlying29 rfl hB1.mem (bw _ _ _ _) rfl)<|WL.call func96 rfl rfl rfl (zo _ c _ (hc0.ext hE)) aL ?_;rintro v8 w3 hR3;obtain⟨u3,rfl,hA3⟩:=hR3;have hx3:=hA3.ou;have hz3:=hx3.size;have hE:=hE.ae hx3;have hB1:=hB1.ext hx3;have hB2:=hB2.ext hx3;have hO3:=hA3.sY.by
 have hlt3:=hA3.sY.lt;obtain⟨A3,m3,c3,rfl⟩:=hO3.lens;refine WL.m rfl<|WL.v (Y.extract rfl rfl)<|WL.v (Y.extract rfl rfl)<|WL.a rfl<|WL.a rfl<|WL.nil (hK2 _ _ ?_);clear hK2;refine CW.seq fun K3 hK3=>CW.sr fun K4 hK4=>WL.m rfl<|WL.v (Y.neq rfl rfl)<|WL.nil (hK4 _ _ ?_);clear hK4;refine bp ?_ ?_<;>intro ht5
 ·refine CW.sr fun K6 hK6=>WL.v (Y.eQ (fw _))<|WL.m rfl<|WL.store (g:=g2) (pre:=[]) (old:=aN aD.zero) (post:=[]) (new:=aN aD.zero) rfl rfl rfl rfl (aj _) (by simpa using hB2) (by first|(simp only [List.length_cons,List.length_nil,List.length_map,List.length_replicate,V8.ws,ag];done)|rfl|(simp [ag,aC];done)|(simp only [ag,aC];omega)) (bV) (fun w4 hc4 hB4_=>?_);have hz4:=hc4.size;have hE:=hE.step hc4 (fun k h=>by omega);have hB1:=hB1.aA hc4 cq;have hB2:aK w4 g2 rj (aN aD.zero):=by simpa using hB4_
  refine WL.a rfl<|WL.nil (hK6 _ _ ?_);clear hK6;refine CW.ret ?_;exact⟨_,_,_,rfl,hB2.mem,ag _,rfl,by rw [eH,if_neg (by assumption)];rfl,hE⟩
 refine CW.skip ?_;refine hK3 _ _ ?_;clear hK3;refine CW.sr fun K7 hK7=>WL.m rfl<|WL.call func97 rfl rfl rfl (GP _ (if eY c=0 then tT c else []) _ hO3 (fun _=>hlt3) (hK.ext hE) (by rw [if_pos ai];have:=sI (c:=c) ai;omega)) aL ?_;rintro v w5 ⟨rfl,hx5⟩;have hz5:=hx5.size;have hE:=hE.ae hx5;have hB1:=hB1.ext hx5;have hB2:=hB2.ext hx5;refine WL.store (g:=g2) (pre:=[]) (old:=aN aD.zero) (post:=[]) (new:=aN (nA (if eY c=0 then tT c else []))) rfl rfl rfl rfl (aj _) (by simpa using hB2) (by first|(simp only [List.length_cons,List.length_nil,List.length_map,List.length_replicate,V8.ws,ag];done)|rfl|(simp [ag,aC];done)|(simp only [ag,aC];omega)) (bV) (fun w6 hc6 hB6_=>?_);have hz6:=hc6.size;have hE:=hE.step hc6 (fun k h=>by omega);have hB1:=hB1.aA hc6 cq;have hm0:eY c=0:=by omega
 have hB2:aK w6 g2 rj (aN (eH c)):=by rw [eH,if_pos hm0];rw [if_pos hm0]at hB6_;simpa using hB6_
 refine WL.a rfl<|WL.nil (hK7 _ _ ?_);clear hK7;refine CW.ret ?_;exact⟨_,_,_,rfl,hB2.mem,ag _,rfl,by rw [hm0],hE⟩
end Go.Proofs.YtmehkigmnpjcjaaGreatDoor
