/- Parts of a proof: what its last text leans on. No condition. -/
import Derived.Test.YtmehkigmnpjcjaaGreatDoorK04
set_option linter.unusedSimpArgs false
set_option linter.unusedVariables false
namespace Go.Proofs.YtmehkigmnpjcjaaGreatDoor
open Go.RowKit Go.Fw Go.Pl Go.Proofs.Tryz
set_option maxRecDepth 20000 in
theorem uL(s:ByteArray)(w:World)(hs:s.size≤maxLen):Calls prog 15 #[.string s] w (cB fun v w'=>v= .bool (mi s.toList)∧Ext w w'):=by
 unfold maxLen at hs;have hsl:=bR s;refine ar 71 [2] [(0,.string s)] func15 rfl rfl rfl aL du ?_;refine CW.sr fun K1 hK1=>WL.a rfl<|WL.nil (hK1 _ _ ?_);clear hK1;refine CW.seq fun K2 hK2=>CW.sr fun K3 hK3=>WL.a rfl<|WL.nil (hK3 _ _ ?_);clear hK3;refine CW.block ?_;refine CW.loop (X:=Nat) (fun x=>[(0,.string s),(3,.int .i64 (x:Int))]) (fun x w0=>x≤s.size∧(s.toList.take x).all letter=true∧Ext w w0) (fun x=>s.size-x) 0 (Fr.le.cons rfl (Fr.le.cons rfl Fr.le.nil)) ⟨by omega,by simp,aE.refl⟩ ?_;intro x w1 hl1;obtain⟨hi,hall,hL1⟩:=hl1;refine CW.seq fun K4 hK4=>CW.sr fun K5 hK5=>WL.m rfl<|WL.m rfl<|WL.v (Y.aM underlying9 rfl)<|WL.v (Y.lss rfl rfl)<|WL.nil (hK5 _ _ ?_);clear hK5;refine bp ?_ ?_<;>intro ht6
 ·refine CW.skip ?_;refine hK4 _ _ ?_;clear hK4;refine CW.seq fun K7 hK7=>?_;refine CW.block<|CW.sr fun K8 hK8=>WL.m rfl<|WL.m rfl<|WL.v (Y.cJ underlying9 rfl rfl ai)<|WL.a rfl<|WL.nil (hK8 _ _ ?_);clear hK8;refine CW.bS 5 ((65≤(s[x].toNat:Int)∧(s[x].toNat:Int)≤90)∨(97≤(s[x].toNat:Int)∧(s[x].toNat:Int)≤122)∨(48≤(s[x].toNat:Int)∧(s[x].toNat:Int)≤57)) ?_ ?_
  ·refine CW.region<|WL.m rfl<|WL.v (Y.geq rfl rfl)<|WL.m rfl ?_;refine dO ?_ ?_<;>intro hg17
   ·refine WL.g rfl rfl (Y.move rfl)<|WL.g rfl rfl (Y.leq rfl rfl)<|WL.v (Y.pick rfl rfl)<|WL.m rfl ?_;refine dO ?_ ?_<;>intro hg21
    ·refine WL.o rfl rfl<|WL.o rfl rfl<|WL.o rfl rfl<|WL.bD rfl rfl aw<|WL.bD rfl rfl aw<|WL.o rfl rfl<|WL.v (Y.pick rfl rfl)<|WL.m rfl<|WL.o rfl rfl<|WL.o rfl rfl<|WL.o rfl rfl<|WL.bD rfl rfl aw<|WL.bD rfl rfl aw ?_;refine WL.o rfl rfl<|WL.v (Y.pick rfl rfl)<|WL.a rfl<|WL.nil ⟨⟨_,rfl,?_⟩,rfl,Fr.cT⟩;exact aH
    ·refine WL.g rfl rfl (Y.move rfl)<|WL.g rfl rfl (Y.geq rfl rfl)<|WL.g rfl rfl (Y.move rfl) ?_;refine dO ?_ ?_<;>intro hg24
     ·refine WL.g rfl rfl (Y.move rfl)<|WL.g rfl rfl (Y.leq rfl rfl)<|WL.g rfl rfl (Y.pick rfl rfl)<|WL.v (Y.pick rfl rfl)<|WL.m rfl ?_;refine dO ?_ ?_<;>intro hg29
      ·refine WL.o rfl rfl<|WL.o rfl rfl<|WL.o rfl rfl<|WL.bD rfl rfl aw<|WL.bD rfl rfl aw<|WL.o rfl rfl<|WL.v (Y.pick rfl rfl)<|WL.a rfl<|WL.nil ⟨⟨_,rfl,?_⟩,rfl,Fr.cT⟩;exact aH
      ·refine WL.g rfl rfl (Y.move rfl)<|WL.g rfl rfl (Y.geq rfl rfl)<|WL.g rfl rfl (Y.move rfl) ?_;refine dO ?_ ?_<;>intro hg32
       ·refine WL.g rfl rfl (Y.move rfl)<|WL.g rfl rfl (Y.leq rfl rfl)<|WL.g rfl rfl (Y.pick rfl rfl)<|WL.v (Y.pick rfl rfl)<|WL.a rfl<|WL.nil ⟨⟨_,rfl,?_⟩,rfl,Fr.cT⟩;exact aH
       ·refine WL.o rfl rfl<|WL.o rfl rfl<|WL.g rfl rfl (Y.pick rfl rfl)<|WL.v (Y.pick rfl rfl)<|WL.a rfl<|WL.nil ⟨⟨_,rfl,?_⟩,rfl,Fr.cT⟩;exact aH
     ·refine WL.o rfl rfl<|WL.o rfl rfl<|WL.g rfl rfl (Y.pick rfl rfl)<|WL.v (Y.pick rfl rfl)<|WL.m rfl<|WL.g rfl rfl (Y.move rfl)<|WL.g rfl rfl (Y.geq rfl rfl)<|WL.g rfl rfl (Y.move rfl) ?_;refine dO ?_ ?_<;>intro hg32
      ·refine WL.g rfl rfl (Y.move rfl)<|WL.g rfl rfl (Y.leq rfl rfl)<|WL.g rfl rfl (Y.pick rfl rfl)<|WL.v (Y.pick rfl rfl)<|WL.a rfl<|WL.nil ⟨⟨_,rfl,?_⟩,rfl,Fr.cT⟩;exact aH
      ·refine WL.o rfl rfl<|WL.o rfl rfl<|WL.g rfl rfl (Y.pick rfl rfl)<|WL.v (Y.pick rfl rfl)<|WL.a rfl<|WL.nil ⟨⟨_,rfl,?_⟩,rfl,Fr.cT⟩;exact aH
   ·refine WL.o rfl rfl<|WL.o rfl rfl<|WL.v (Y.pick rfl rfl)<|WL.m rfl<|WL.g rfl rfl (Y.move rfl)<|WL.g rfl rfl (Y.geq rfl rfl)<|WL.g rfl rfl (Y.move rfl) ?_;refine dO ?_ ?_<;>intro hg24
    ·refine WL.g rfl rfl (Y.move rfl)<|WL.g rfl rfl (Y.leq rfl rfl)<|WL.g rfl rfl (Y.pick rfl rfl)<|WL.v (Y.pick rfl rfl)<|WL.m rfl ?_;refine dO ?_ ?_<;>intro hg29
     ·refine WL.o rfl rfl<|WL.o rfl rfl<|WL.o rfl rfl<|WL.bD rfl rfl aw<|WL.bD rfl rfl aw<|WL.o rfl rfl<|WL.v (Y.pick rfl rfl)<|WL.a rfl<|WL.nil ⟨⟨_,rfl,?_⟩,rfl,Fr.cT⟩;exact aH
     ·refine WL.g rfl rfl (Y.move rfl)<|WL.g rfl rfl (Y.geq rfl rfl)<|WL.g rfl rfl (Y.move rfl) ?_;refine dO ?_ ?_<;>intro hg32
      ·refine WL.g rfl rfl (Y.move rfl)<|WL.g rfl rfl (Y.leq rfl rfl)<|WL.g rfl rfl (Y.pick rfl rfl)<|WL.v (Y.pick rfl rfl)<|WL.a rfl<|WL.nil ⟨⟨_,rfl,?_⟩,rfl,Fr.cT⟩;exact aH
      ·refine WL.o rfl rfl<|WL.o rfl rfl<|WL.g rfl rfl (Y.pick rfl rfl)<|WL.v (Y.pick rfl rfl)<|WL.a rfl<|WL.nil ⟨⟨_,rfl,?_⟩,rfl,Fr.cT⟩;exact aH
    ·refine WL.o rfl rfl<|WL.o rfl rfl<|WL.g rfl rfl (Y.pick rfl rfl)<|WL.v (Y.pick rfl rfl)<|WL.m rfl<|WL.g rfl rfl (Y.move rfl)<|WL.g rfl rfl (Y.geq rfl rfl)<|WL.g rfl rfl (Y.move rfl) ?_;refine dO ?_ ?_<;>intro hg32
     ·refine WL.g rfl rfl (Y.move rfl)<|WL.g rfl rfl (Y.leq rfl rfl)<|WL.g rfl rfl (Y.pick rfl rfl)<|WL.v (Y.pick rfl rfl)<|WL.a rfl<|WL.nil ⟨⟨_,rfl,?_⟩,rfl,Fr.cT⟩;exact aH
     ·refine WL.o rfl rfl<|WL.o rfl rfl<|WL.g rfl rfl (Y.pick rfl rfl)<|WL.v (Y.pick rfl rfl)<|WL.a rfl<|WL.nil ⟨⟨_,rfl,?_⟩,rfl,Fr.cT⟩;exact aH
  refine CW.bS 62 (¬((65≤(s[x].toNat:Int)∧(s[x].toNat:Int)≤90)∨(97≤(s[x].toNat:Int)∧(s[x].toNat:Int)≤122)∨(48≤(s[x].toNat:Int)∧(s[x].toNat:Int)≤57))∧(s[x].toNat:Int)≠45∧(s[x].toNat:Int)≠95∧(s[x].toNat:Int)≠46∧(s[x].toNat:Int)≠35∧(s[x].toNat:Int)≠64∧(s[x].toNat:Int)≠126) ?_ ?_
  ·refine CW.region<|WL.m rfl<|WL.v (Y.not rfl)<|WL.m rfl ?_;refine dO ?_ ?_<;>intro hg39
   ·refine WL.g rfl rfl (Y.move rfl)<|WL.g rfl rfl (Y.neq rfl rfl)<|WL.v (Y.pick rfl rfl)<|WL.m rfl ?_;refine dO ?_ ?_<;>intro hg43
    ·refine WL.g rfl rfl (Y.move rfl)<|WL.g rfl rfl (Y.neq rfl rfl)<|WL.v (Y.pick rfl rfl)<|WL.m rfl ?_;refine dO ?_ ?_<;>intro hg47
     ·refine WL.g rfl rfl (Y.move rfl)<|WL.g rfl rfl (Y.neq rfl rfl)<|WL.v (Y.pick rfl rfl)<|WL.m rfl ?_;refine dO ?_ ?_<;>intro hg51
      ·refine WL.g rfl rfl (Y.move rfl)<|WL.g rfl rfl (Y.neq rfl rfl)<|WL.v (Y.pick rfl rfl)<|WL.m rfl ?_;refine dO ?_ ?_<;>intro hg55
       ·refine WL.g rfl rfl (Y.move rfl)<|WL.g rfl rfl (Y.neq rfl rfl)<|WL.v (Y.pick rfl rfl)<|WL.m rfl ?_;refine dO ?_ ?_<;>intro hg59
        ·refine WL.g rfl rfl (Y.move rfl)<|WL.g rfl rfl (Y.neq rfl rfl)<|WL.v (Y.pick rfl rfl)<|WL.nil ⟨⟨_,rfl,?_⟩,rfl,Fr.cT⟩;exact aH
        ·refine WL.o rfl rfl<|WL.o rfl rfl<|WL.v (Y.pick rfl rfl)<|WL.nil ⟨⟨_,rfl,?_⟩,rfl,Fr.cT⟩;exact aH
       ·refine WL.o rfl rfl<|WL.o rfl rfl<|WL.v (Y.pick rfl rfl)<|WL.m rfl<|WL.o rfl rfl<|WL.o rfl rfl<|WL.v (Y.pick rfl rfl)<|WL.nil ⟨⟨_,rfl,?_⟩,rfl,Fr.cT⟩;exact aH
      ·refine WL.o rfl rfl<|WL.o rfl rfl<|WL.v (Y.pick rfl rfl)<|WL.m rfl<|WL.o rfl rfl<|WL.o rfl rfl<|WL.v (Y.pick rfl rfl)<|WL.m rfl<|WL.o rfl rfl<|WL.o rfl rfl<|WL.v (Y.pick rfl rfl)<|WL.nil ⟨⟨_,rfl,?_⟩,rfl,Fr.cT⟩;exact aH
     ·refine WL.o rfl rfl<|WL.o rfl rfl<|WL.v (Y.pick rfl rfl)<|WL.m rfl<|WL.o rfl rfl<|WL.o rfl rfl<|WL.v (Y.pick rfl rfl)<|WL.m rfl<|WL.o rfl rfl<|WL.o rfl rfl<|WL.v (Y.pick rfl rfl)<|WL.m rfl<|WL.o rfl rfl ?_;refine WL.o rfl rfl<|WL.v (Y.pick rfl rfl)<|WL.nil ⟨⟨_,rfl,?_⟩,rfl,Fr.cT⟩;exact aH
    ·refine WL.o rfl rfl<|WL.o rfl rfl<|WL.v (Y.pick rfl rfl)<|WL.m rfl<|WL.o rfl rfl<|WL.o rfl rfl<|WL.v (Y.pick rfl rfl)<|WL.m rfl<|WL.o rfl rfl<|WL.o rfl rfl<|WL.v (Y.pick rfl rfl)<|WL.m rfl<|WL.o rfl rfl ?_;refine WL.o rfl rfl<|WL.v (Y.pick rfl rfl)<|WL.m rfl<|WL.o rfl rfl<|WL.o rfl rfl<|WL.v (Y.pick rfl rfl)<|WL.nil ⟨⟨_,rfl,?_⟩,rfl,Fr.cT⟩;exact aH
   ·refine WL.o rfl rfl<|WL.o rfl rfl<|WL.v (Y.pick rfl rfl)<|WL.m rfl<|WL.o rfl rfl<|WL.o rfl rfl<|WL.v (Y.pick rfl rfl)<|WL.m rfl<|WL.o rfl rfl<|WL.o rfl rfl<|WL.v (Y.pick rfl rfl)<|WL.m rfl<|WL.o rfl rfl ?_;refine WL.o rfl rfl<|WL.v (Y.pick rfl rfl)<|WL.m rfl<|WL.o rfl rfl<|WL.o rfl rfl<|WL.v (Y.pick rfl rfl)<|WL.m rfl<|WL.o rfl rfl<|WL.o rfl rfl<|WL.v (Y.pick rfl rfl)<|WL.nil ⟨⟨_,rfl,?_⟩,rfl,Fr.cT⟩;exact aH
  refine bp ?_ ?_<;>intro ht9
  ·refine CW.sr fun K10 hK10=>WL.a rfl<|WL.nil (hK10 _ _ ?_);clear hK10;refine CW.ret ⟨_,rfl,?_⟩;refine⟨?_,hL1⟩;rw [yf (ku (i:=x) ai) (by simp [letter,rn];omega)]
  refine CW.skip ?_;refine hK7 _ _ ?_;clear hK7;refine CW.region<|WL.m rfl<|WL.v (Y.add rfl rfl bB)<|WL.a rfl<|WL.nil ?_;refine⟨x+1,by omega,(Fr.le.cons rfl (Fr.le.cons rfl Fr.le.nil)),by omega,?_,hL1⟩;refine nE hall (ku ai) ?_;simp [letter,rn];omega
 refine CW.exit ?_;refine hK2 _ _ ?_;clear hK2;refine CW.sr fun K11 hK11=>WL.m rfl<|WL.v (Y.aM underlying9 rfl)<|WL.v (Y.gtr rfl rfl)<|WL.m rfl ?_;refine dO ?_ ?_<;>intro hg66
 ·refine WL.g rfl rfl (Y.move rfl)<|WL.g rfl rfl (Y.aM underlying9 rfl)<|WL.g rfl rfl (Y.leq rfl rfl)<|WL.v (Y.pick rfl rfl)<|WL.a rfl<|WL.nil (hK11 _ _ ?_);clear hK11;refine CW.ret ⟨_,rfl,?_⟩;exact⟨by rw [m6 hall ai,hsl];congr 1;rw [Bool.eq_iff_iff];simp;omega,hL1⟩
 ·refine WL.o rfl rfl<|WL.o rfl rfl<|WL.o rfl rfl<|WL.v (Y.pick rfl rfl)<|WL.a rfl<|WL.nil (hK11 _ _ ?_);clear hK11;refine CW.ret ⟨_,rfl,?_⟩;exact⟨by rw [m6 hall ai,hsl];congr 1;rw [Bool.eq_iff_iff];simp;omega,hL1⟩
theorem ue(lv:Value)(l:List ct)(i:Int)(w:World)(hl:Sl w eM 37 lv l)(hi:eE i):Calls prog 72 #[lv,.int .i64 i] w (cB fun v w'=>v= .int .i64 (dn l i)∧Ext w w'):=by
 obtain⟨A,m,c,rfl,hm,hmc,hcm,hls⟩:=hl;unfold maxLen at hcm;refine ar 69 [4] [(0,.slice A m c),(1,.int .i64 i)] func72 rfl rfl rfl aL cz ?_;refine CW.sr fun K1 hK1=>WL.a rfl<|WL.nil (hK1 _ _ ?_);clear hK1;refine CW.seq fun K2 hK2=>?_;refine CW.bS 13 (i<1∨(m:Int)<i) ?_ ?_
 ·refine CW.region<|WL.m rfl<|WL.v (Y.lss rfl rfl)<|WL.m rfl ?_;refine dO ?_ ?_<;>intro hg8
  ·refine WL.o rfl rfl<|WL.o rfl rfl<|WL.o rfl rfl<|WL.o rfl rfl<|WL.v (Y.pick rfl rfl)<|WL.nil ⟨⟨_,rfl,?_⟩,rfl,Fr.cT⟩;exact aH
  ·refine WL.g rfl rfl (Y.move rfl)<|WL.g rfl rfl (Y.move rfl)<|WL.g rfl rfl (Y.aq underlying27 rfl)<|WL.g rfl rfl (Y.gtr rfl rfl)<|WL.v (Y.pick rfl rfl)<|WL.nil ⟨⟨_,rfl,?_⟩,rfl,Fr.cT⟩;exact aH
 refine bp ?_ ?_<;>intro ht3
 ·refine CW.sr fun K4 hK4=>WL.a rfl<|WL.nil (hK4 _ _ ?_);clear hK4;refine CW.ret ⟨_,rfl,?_⟩;exact⟨by rw [dn,if_pos (by rw [hm];exact ht3)],aE.refl⟩
 refine CW.skip ?_;refine hK2 _ _ ?_;clear hK2;refine CW.seq fun K5 hK5=>?_;have hlo:¬(i<1∨(m:Int)<i):=ht3;obtain⟨x,hx⟩:∃x,l[(i-1).toNat]? =some x:=⟨_,List.getElem?_eq_getElem ai⟩;obtain⟨ad,rfl,hmx⟩:=hls _ x hx;have hval:dn l i=eR l i x:=qc (by rw [hm];exact hlo) hx;refine CW.region<|WL.m rfl<|WL.m rfl<|WL.v (Y.sub rfl rfl bB)<|WL.v (Y.indexAddr underlying27 rfl rfl bQ ai ai)<|WL.v (Y.load underlying64 rfl hmx (eA _) rfl) ?_;refine lF rfl aL aw fun g5 w1 hx1 hg5 hB5=>?_;have hM5:=hB5.mem;refine WL.nil (hK5 _ _ ?_);clear hK5;refine CW.seq fun K6 hK6=>CW.sr fun K7 hK7=>WL.v (Y.fieldAddr bE rfl)<|WL.v (Y.load underlying62 rfl hM5.oo (aT _) rfl)<|WL.call func93 rfl rfl rfl ((Gy _ _)) aL ?_;rintro v w2 ⟨rfl,hx2⟩;have hM5:=hM5.ext hx2;refine WL.v (Y.not rfl)<|WL.nil (hK7 _ _ ?_);clear hK7;refine bp ?_ ?_<;>intro ht8
 ·refine CW.sr fun K9 hK9=>WL.a rfl<|WL.nil (hK9 _ _ ?_);clear hK9;refine CW.ret ⟨_,rfl,?_⟩;exact⟨by rw [hval];first|(simp_all [eR];done)|(simp_all [eR];omega),(hx1.ae hx2)⟩
 refine CW.skip ?_;refine hK6 _ _ ?_;clear hK6;refine CW.DB (fun w0=>Ext w2 w0∧(¬(x.kind=1∧(x.left=true∧cM x.at_=true))∧¬(x.kind=2∧(x.left=true∨(x.byte.toNat:Int)≠0∨cM x.at_=true))∧¬(x.kind≠1∧x.kind≠2))) ?_ ?_
 ·refine CW.sr fun K11 hK11=>WL.v (Y.fieldAddr dg rfl)<|WL.v (Y.ah underlying3 rfl hM5.yr rfl)<|WL.nil (hK11 _ _ ?_);clear hK11;refine CW.block<|CW.sr fun K12 hK12=>WL.v (Y.eql rfl rfl)<|WL.a rfl<|WL.nil (hK12 _ _ ?_);clear hK12;refine bp ?_ ?_<;>intro ht13
  ·refine CW.cP 33 (x.left=true∧cM x.at_=true) ?_ ?_
   ·refine CW.region<|WL.v (Y.fieldAddr fB rfl)<|WL.v (Y.ah underlying4 rfl hM5.FQ rfl)<|WL.m rfl ?_;refine dO ?_ ?_<;>intro hg29
    ·refine WL.g rfl rfl (Y.fieldAddr bE rfl)<|WL.g rfl rfl (Y.load underlying62 rfl hM5.oo (aT _) rfl)<|WL.lz rfl rfl func94 rfl rfl rfl ((pG _ _)) aw ?_;rintro v w3 ⟨rfl,hx3⟩;have hM5:=hM5.ext hx3;refine WL.v (Y.pick rfl rfl)<|WL.nil ⟨⟨_,rfl,?_⟩,hx3,Fr.cT⟩;exact aH
    ·refine WL.o rfl rfl<|WL.o rfl rfl<|WL.o rfl rfl<|WL.v (Y.pick rfl rfl)<|WL.nil ⟨⟨_,rfl,?_⟩,aE.refl,Fr.cT⟩;exact aH
   intro w4 hx4;have hM5:=hM5.ext hx4;refine bp ?_ ?_<;>intro ht14
   ·refine CW.sr fun K15 hK15=>WL.a rfl<|WL.nil (hK15 _ _ ?_);clear hK15;refine CW.ret ⟨_,rfl,?_⟩;exact⟨by rw [hval];first|(simp_all [eR];done)|(simp_all [eR];omega),((hx1.ae hx2).ae hx4)⟩
   refine CW.skip ?_;exact⟨Fr.cT,hx4,(by first|(simp_all;done)|(simp_all;omega))⟩
  refine CW.sr fun K16 hK16=>WL.v (Y.eql rfl rfl)<|WL.a rfl<|WL.nil (hK16 _ _ ?_);clear hK16;refine bp ?_ ?_<;>intro ht17
  ·refine CW.cP 47 (x.left=true∨(x.byte.toNat:Int)≠0∨cM x.at_=true) ?_ ?_
   ·refine CW.region<|WL.v (Y.fieldAddr fB rfl)<|WL.v (Y.ah underlying4 rfl hM5.FQ rfl)<|WL.m rfl ?_;refine dO ?_ ?_<;>intro hg38
    ·refine WL.o rfl rfl<|WL.o rfl rfl<|WL.o rfl rfl<|WL.v (Y.pick rfl rfl)<|WL.m rfl<|WL.o rfl rfl<|WL.o rfl rfl<|WL.o rfl rfl<|WL.v (Y.pick rfl rfl)<|WL.nil ⟨⟨_,rfl,?_⟩,aE.refl,Fr.cT⟩;exact aH
    ·refine WL.g rfl rfl (Y.fieldAddr jU rfl)<|WL.g rfl rfl (Y.ah underlying5 rfl hM5.Ip rfl)<|WL.g rfl rfl (Y.neq rfl rfl)<|WL.v (Y.pick rfl rfl)<|WL.m rfl ?_;refine dO ?_ ?_<;>intro hg43
     ·refine WL.o rfl rfl<|WL.o rfl rfl<|WL.o rfl rfl<|WL.v (Y.pick rfl rfl)<|WL.nil ⟨⟨_,rfl,?_⟩,aE.refl,Fr.cT⟩;exact aH
     ·refine WL.g rfl rfl (Y.fieldAddr bE rfl)<|WL.g rfl rfl (Y.load underlying62 rfl hM5.oo (aT _) rfl)<|WL.lz rfl rfl func94 rfl rfl rfl ((pG _ _)) aw ?_;rintro v w5 ⟨rfl,hx5⟩;have hM5:=hM5.ext hx5;refine WL.v (Y.pick rfl rfl)<|WL.nil ⟨⟨_,rfl,?_⟩,hx5,Fr.cT⟩;exact aH
   intro w6 hx6;have hM5:=hM5.ext hx6;refine bp ?_ ?_<;>intro ht18
   ·refine CW.sr fun K19 hK19=>WL.a rfl<|WL.nil (hK19 _ _ ?_);clear hK19;refine CW.ret ⟨_,rfl,?_⟩;exact⟨by rw [hval];first|(simp_all [eR];done)|(simp_all [eR];omega),((hx1.ae hx2).ae hx6)⟩
   refine CW.skip ?_;exact⟨Fr.cT,hx6,(by first|(simp_all;done)|(simp_all;omega))⟩
  refine CW.sr fun K20 hK20=>WL.a rfl<|WL.nil (hK20 _ _ ?_);clear hK20;refine CW.ret ⟨_,rfl,?_⟩;exact⟨by rw [hval];first|(simp_all [eR];done)|(simp_all [eR];omega),(hx1.ae hx2)⟩
 rintro w7 ⟨hx7,hj7⟩;have hM5:=hM5.ext hx7;refine CW.seq fun K21 hK21=>?_;refine CW.bS 68 (x.at_.own=true∧(i≤x.at_.n∨ep l (x.at_.n-1).toNat≠1)) ?_ ?_
 ·refine CW.region<|WL.v (Y.fieldAddr bE rfl)<|WL.v (Y.fieldAddr fU rfl)<|WL.v (Y.ah underlying4 rfl hM5.oo.yo rfl)<|WL.m rfl ?_;refine dO ?_ ?_<;>intro hg51
  ·refine WL.g rfl rfl (Y.fieldAddr bE rfl)<|WL.g rfl rfl (Y.fieldAddr bF rfl)<|WL.g rfl rfl (Y.ah underlying3 rfl hM5.oo.iR rfl)<|WL.g rfl rfl (Y.move rfl)<|WL.g rfl rfl (Y.geq rfl rfl)<|WL.g rfl rfl (Y.move rfl) ?_;refine dO ?_ ?_<;>intro hg57
   ·refine WL.o rfl rfl<|WL.o rfl rfl<|WL.o rfl rfl<|WL.o rfl rfl<|WL.o rfl rfl<|WL.o rfl rfl<|WL.o rfl rfl<|WL.o rfl rfl<|WL.o rfl rfl<|WL.g rfl rfl (Y.pick rfl rfl)<|WL.v (Y.pick rfl rfl)<|WL.nil ⟨⟨_,rfl,?_⟩,rfl,Fr.cT⟩;exact aH
   ·refine WL.g rfl rfl (Y.move rfl)<|WL.g rfl rfl (Y.fieldAddr bE rfl)<|WL.g rfl rfl (Y.fieldAddr bF rfl)<|WL.g rfl rfl (Y.ah underlying3 rfl hM5.oo.iR rfl) ?_;have hn:0<x.at_.n:=by first|(have h1:=(I8 x.at_).1 (by assumption);simp [fK,h1.1]at h1;exact h1.2)|(simp_all [fK];done)
    obtain⟨y,hy⟩:∃y,l[(x.at_.n-1).toNat]? =some y:=⟨_,List.getElem?_eq_getElem ai⟩;obtain⟨ad',e,hmy⟩:=hls _ y hy;injection e with e;subst e
    have hk:ep l (x.at_.n-1).toNat=y.kind:=by rw [ep,hy];rfl
    refine WL.g rfl rfl (Y.sub rfl rfl bB)<|WL.g rfl rfl (Y.indexAddr underlying27 rfl rfl bQ ai ai)<|WL.g rfl rfl (Y.fieldAddr dg rfl)<|WL.g rfl rfl (Y.ah underlying3 rfl (hmy.ext ((hx1.ae hx2).ae hx7)).yr rfl)<|WL.g rfl rfl (Y.neq rfl rfl)<|WL.g rfl rfl (Y.pick rfl rfl)<|WL.v (Y.pick rfl rfl)<|WL.nil ⟨⟨_,rfl,?_⟩,rfl,Fr.cT⟩;exact aH
  ·refine WL.o rfl rfl<|WL.o rfl rfl<|WL.o rfl rfl<|WL.o rfl rfl<|WL.o rfl rfl<|WL.o rfl rfl<|WL.bD rfl rfl aw<|WL.bD rfl rfl aw<|WL.bD rfl rfl aw<|WL.bD rfl rfl aw<|WL.bD rfl rfl aw<|WL.bD rfl rfl aw<|WL.bD rfl rfl aw ?_;refine WL.bD rfl rfl aw<|WL.bD rfl rfl aw<|WL.o rfl rfl<|WL.v (Y.pick rfl rfl)<|WL.nil ⟨⟨_,rfl,?_⟩,rfl,Fr.cT⟩;exact aH
 refine bp ?_ ?_<;>intro ht22
 ·refine CW.sr fun K23 hK23=>WL.a rfl<|WL.nil (hK23 _ _ ?_);clear hK23;refine CW.ret ⟨_,rfl,?_⟩;exact⟨by rw [hval,eR,if_neg (by simp [ht8]),if_neg hj7.1,if_neg hj7.2.1,if_neg hj7.2.2,if_pos (by assumption)],((hx1.ae hx2).ae hx7)⟩
 refine CW.skip ?_;refine hK21 _ _ ?_;clear hK21;refine CW.sr fun K24 hK24=>WL.a rfl<|WL.nil (hK24 _ _ ?_);clear hK24;refine CW.ret ⟨_,rfl,?_⟩;exact⟨by rw [hval,eR,if_neg (by simp [ht8]),if_neg hj7.1,if_neg hj7.2.1,if_neg hj7.2.2,if_neg (by assumption)],((hx1.ae hx2).ae hx7)⟩
theorem sn(lv:Value)(l:List ct)(i:Int)(w:World)(hl:Sl w eM 37 lv l)(hi:eE i):Calls prog 90 #[lv,.int .i64 i] w (cB fun v w'=>v= .int .i64 (dn l i)∧Ext w w'):=by
 obtain⟨A,m,c,rfl,hm,hmc,hcm,hls⟩:=hl;unfold maxLen at hcm;refine ar 84 [4] [(0,.slice A m c),(1,.int .i64 i)] func90 rfl rfl rfl aL cz ?_;refine CW.sr fun K1 hK1=>WL.a rfl<|WL.nil (hK1 _ _ ?_);clear hK1;refine CW.seq fun K2 hK2=>?_;refine CW.bS 16 (i<1∨(m:Int)<i) ?_ ?_
 ·refine CW.region<|WL.m rfl<|WL.v (Y.lss rfl rfl)<|WL.m rfl ?_;refine dO ?_ ?_<;>intro hg11
  ·refine WL.o rfl rfl<|WL.o rfl rfl<|WL.o rfl rfl<|WL.o rfl rfl<|WL.v (Y.pick rfl rfl)<|WL.nil ⟨⟨_,rfl,?_⟩,rfl,Fr.cT⟩;exact aH
  ·refine WL.g rfl rfl (Y.move rfl)<|WL.g rfl rfl (Y.move rfl)<|WL.g rfl rfl (Y.aq underlying27 rfl)<|WL.g rfl rfl (Y.gtr rfl rfl)<|WL.v (Y.pick rfl rfl)<|WL.nil ⟨⟨_,rfl,?_⟩,rfl,Fr.cT⟩;exact aH
 refine bp ?_ ?_<;>intro ht3
 ·refine CW.sr fun K4 hK4=>WL.a rfl<|WL.nil (hK4 _ _ ?_);clear hK4;refine CW.ret ⟨_,rfl,?_⟩;exact⟨by rw [dn,if_pos (by rw [hm];exact ht3)],aE.refl⟩
 refine CW.skip ?_;refine hK2 _ _ ?_;clear hK2;refine CW.seq fun K5 hK5=>?_;have hlo:¬(i<1∨(m:Int)<i):=ht3;obtain⟨x,hx⟩:∃x,l[(i-1).toNat]? =some x:=⟨_,List.getElem?_eq_getElem ai⟩;obtain⟨ad,rfl,hmx⟩:=hls _ x hx;have hval:dn l i=eR l i x:=qc (by rw [hm];exact hlo) hx;refine CW.region<|WL.m rfl<|WL.m rfl<|WL.v (Y.sub rfl rfl bB)<|WL.v (Y.indexAddr underlying27 rfl rfl bQ ai ai)<|WL.v (Y.load underlying64 rfl hmx (eA _) rfl) ?_;refine lF rfl aL aw fun g5 w1 hx1 hg5 hB5=>?_;have hM5:=hB5.mem;refine WL.nil (hK5 _ _ ?_);clear hK5;refine CW.sr fun K6 hK6=>WL.v (Y.fieldAddr bE rfl)<|WL.v (Y.load underlying62 rfl hM5.oo (aT _) rfl)<|WL.call func84 rfl rfl rfl ((oO _ _)) aL ?_;rintro v w2 ⟨rfl,hx2⟩;have hM5:=hM5.ext hx2;refine WL.a rfl<|WL.nil (hK6 _ _ ?_);clear hK6;refine CW.bS 7 (x.kind=1∧¬(bj x.at_=0∧x.left=true)) ?_ ?_
 ·refine CW.region<|WL.v (Y.fieldAddr dg rfl)<|WL.v (Y.ah underlying3 rfl hM5.yr rfl)<|WL.v (Y.eql rfl rfl)<|WL.m rfl ?_;refine dO ?_ ?_<;>intro hg28
  ·refine WL.g rfl rfl (Y.move rfl)<|WL.g rfl rfl (Y.eql rfl rfl)<|WL.g rfl rfl (Y.move rfl) ?_;refine dO ?_ ?_<;>intro hg31
   ·refine WL.g rfl rfl (Y.fieldAddr fB rfl)<|WL.g rfl rfl (Y.ah underlying4 rfl hM5.FQ rfl)<|WL.g rfl rfl (Y.pick rfl rfl)<|WL.g rfl rfl (Y.not rfl)<|WL.v (Y.pick rfl rfl)<|WL.a rfl<|WL.nil ⟨⟨_,rfl,?_⟩,rfl,Fr.cT⟩;exact aH
   ·refine WL.o rfl rfl<|WL.o rfl rfl<|WL.g rfl rfl (Y.pick rfl rfl)<|WL.g rfl rfl (Y.not rfl)<|WL.v (Y.pick rfl rfl)<|WL.a rfl<|WL.nil ⟨⟨_,rfl,?_⟩,rfl,Fr.cT⟩;exact aH
  ·refine WL.o rfl rfl<|WL.o rfl rfl<|WL.o rfl rfl<|WL.bD rfl rfl aw<|WL.bD rfl rfl aw<|WL.o rfl rfl<|WL.o rfl rfl<|WL.v (Y.pick rfl rfl)<|WL.a rfl<|WL.nil ⟨⟨_,rfl,?_⟩,rfl,Fr.cT⟩;exact aH
 refine CW.bS 8 (x.kind=2∧bj x.at_≠0∧x.left=false∧(x.byte.toNat:Int)=0) ?_ ?_
 ·refine CW.region<|WL.v (Y.fieldAddr dg rfl)<|WL.v (Y.ah underlying3 rfl hM5.yr rfl)<|WL.v (Y.eql rfl rfl)<|WL.m rfl ?_;refine dO ?_ ?_<;>intro hg40
  ·refine WL.g rfl rfl (Y.move rfl)<|WL.g rfl rfl (Y.neq rfl rfl)<|WL.v (Y.pick rfl rfl)<|WL.m rfl ?_;refine dO ?_ ?_<;>intro hg44
   ·refine WL.g rfl rfl (Y.fieldAddr fB rfl)<|WL.g rfl rfl (Y.ah underlying4 rfl hM5.FQ rfl)<|WL.g rfl rfl (Y.not rfl)<|WL.v (Y.pick rfl rfl)<|WL.m rfl ?_;refine dO ?_ ?_<;>intro hg49
    ·refine WL.g rfl rfl (Y.fieldAddr jU rfl)<|WL.g rfl rfl (Y.ah underlying5 rfl hM5.Ip rfl)<|WL.g rfl rfl (Y.eql rfl rfl)<|WL.v (Y.pick rfl rfl)<|WL.a rfl<|WL.nil ⟨⟨_,rfl,?_⟩,rfl,Fr.cT⟩;exact aH
    ·refine WL.o rfl rfl<|WL.o rfl rfl<|WL.o rfl rfl<|WL.v (Y.pick rfl rfl)<|WL.a rfl<|WL.nil ⟨⟨_,rfl,?_⟩,rfl,Fr.cT⟩;exact aH
   ·refine WL.o rfl rfl<|WL.o rfl rfl<|WL.o rfl rfl<|WL.v (Y.pick rfl rfl)<|WL.m rfl<|WL.o rfl rfl<|WL.o rfl rfl<|WL.o rfl rfl<|WL.v (Y.pick rfl rfl)<|WL.a rfl<|WL.nil ⟨⟨_,rfl,?_⟩,rfl,Fr.cT⟩;exact aH
  ·refine WL.o rfl rfl<|WL.o rfl rfl<|WL.v (Y.pick rfl rfl)<|WL.m rfl<|WL.o rfl rfl<|WL.o rfl rfl<|WL.o rfl rfl<|WL.v (Y.pick rfl rfl)<|WL.m rfl<|WL.o rfl rfl<|WL.o rfl rfl<|WL.o rfl rfl<|WL.v (Y.pick rfl rfl) ?_;refine WL.a rfl<|WL.nil ⟨⟨_,rfl,?_⟩,rfl,Fr.cT⟩;exact aH
 refine CW.seq fun K7 hK7=>?_;refine CW.bS 63 (bj x.at_=3∨(¬(x.kind=1∧¬(bj x.at_=0∧x.left=true))∧¬(x.kind=2∧bj x.at_≠0∧x.left=false∧(x.byte.toNat:Int)=0))) ?_ ?_
 ·refine CW.region<|WL.m rfl<|WL.v (Y.eql rfl rfl)<|WL.m rfl ?_;refine dO ?_ ?_<;>intro hg56
  ·refine WL.o rfl rfl<|WL.o rfl rfl<|WL.o rfl rfl<|WL.bD rfl rfl aw<|WL.bD rfl rfl aw<|WL.o rfl rfl<|WL.v (Y.pick rfl rfl)<|WL.nil ⟨⟨_,rfl,?_⟩,rfl,Fr.cT⟩;exact aH
  ·refine WL.g rfl rfl (Y.move rfl)<|WL.g rfl rfl (Y.not rfl)<|WL.g rfl rfl (Y.move rfl) ?_;refine dO ?_ ?_<;>intro hg59
   ·refine WL.g rfl rfl (Y.move rfl)<|WL.g rfl rfl (Y.not rfl)<|WL.g rfl rfl (Y.pick rfl rfl)<|WL.v (Y.pick rfl rfl)<|WL.nil ⟨⟨_,rfl,?_⟩,rfl,Fr.cT⟩;exact aH
   ·refine WL.o rfl rfl<|WL.o rfl rfl<|WL.g rfl rfl (Y.pick rfl rfl)<|WL.v (Y.pick rfl rfl)<|WL.nil ⟨⟨_,rfl,?_⟩,rfl,Fr.cT⟩;exact aH
 refine bp ?_ ?_<;>intro ht8
 ·refine CW.sr fun K9 hK9=>WL.a rfl<|WL.nil (hK9 _ _ ?_);clear hK9;refine CW.ret ⟨_,rfl,?_⟩;exact⟨by rw [hval,nU,if_pos (by assumption)],(hx1.ae hx2)⟩
 refine CW.skip ?_;refine hK7 _ _ ?_;clear hK7;refine CW.seq fun K10 hK10=>?_;refine CW.bS 83 (bj x.at_=1∧(i≤x.at_.n∨ep l (x.at_.n-1).toNat≠1)) ?_ ?_
 ·refine CW.region<|WL.m rfl<|WL.v (Y.eql rfl rfl)<|WL.m rfl ?_;refine dO ?_ ?_<;>intro hg66
  ·refine WL.g rfl rfl (Y.fieldAddr bE rfl)<|WL.g rfl rfl (Y.fieldAddr bF rfl)<|WL.g rfl rfl (Y.ah underlying3 rfl hM5.oo.iR rfl)<|WL.g rfl rfl (Y.move rfl)<|WL.g rfl rfl (Y.geq rfl rfl)<|WL.g rfl rfl (Y.move rfl) ?_;refine dO ?_ ?_<;>intro hg72
   ·refine WL.o rfl rfl<|WL.o rfl rfl<|WL.o rfl rfl<|WL.o rfl rfl<|WL.o rfl rfl<|WL.o rfl rfl<|WL.o rfl rfl<|WL.o rfl rfl<|WL.o rfl rfl<|WL.g rfl rfl (Y.pick rfl rfl)<|WL.v (Y.pick rfl rfl)<|WL.nil ⟨⟨_,rfl,?_⟩,rfl,Fr.cT⟩;exact aH
   ·refine WL.g rfl rfl (Y.move rfl)<|WL.g rfl rfl (Y.fieldAddr bE rfl)<|WL.g rfl rfl (Y.fieldAddr bF rfl)<|WL.g rfl rfl (Y.ah underlying3 rfl hM5.oo.iR rfl) ?_;have hn:0<x.at_.n:=by first|(have h1:=(I8 x.at_).1 (by assumption);simp [fK,h1.1]at h1;exact h1.2)|(simp_all [fK];done)
    obtain⟨y,hy⟩:∃y,l[(x.at_.n-1).toNat]? =some y:=⟨_,List.getElem?_eq_getElem ai⟩;obtain⟨ad',e,hmy⟩:=hls _ y hy;injection e with e;subst e
    have hk:ep l (x.at_.n-1).toNat=y.kind:=by rw [ep,hy];rfl
    refine WL.g rfl rfl (Y.sub rfl rfl bB)<|WL.g rfl rfl (Y.indexAddr underlying27 rfl rfl bQ ai ai)<|WL.g rfl rfl (Y.fieldAddr dg rfl)<|WL.g rfl rfl (Y.ah underlying3 rfl (hmy.ext (hx1.ae hx2)).yr rfl)<|WL.g rfl rfl (Y.neq rfl rfl)<|WL.g rfl rfl (Y.pick rfl rfl)<|WL.v (Y.pick rfl rfl)<|WL.nil ⟨⟨_,rfl,?_⟩,rfl,Fr.cT⟩;exact aH
  ·refine WL.o rfl rfl<|WL.o rfl rfl<|WL.o rfl rfl<|WL.o rfl rfl<|WL.o rfl rfl<|WL.o rfl rfl<|WL.bD rfl rfl aw<|WL.bD rfl rfl aw<|WL.bD rfl rfl aw<|WL.bD rfl rfl aw<|WL.bD rfl rfl aw<|WL.bD rfl rfl aw<|WL.bD rfl rfl aw ?_;refine WL.bD rfl rfl aw<|WL.bD rfl rfl aw<|WL.o rfl rfl<|WL.v (Y.pick rfl rfl)<|WL.nil ⟨⟨_,rfl,?_⟩,rfl,Fr.cT⟩;exact aH
 refine bp ?_ ?_<;>intro ht11
 ·refine CW.sr fun K12 hK12=>WL.a rfl<|WL.nil (hK12 _ _ ?_);clear hK12;refine CW.ret ⟨_,rfl,?_⟩;exact⟨by rw [hval,nU,if_neg (by assumption),if_pos (by assumption)],(hx1.ae hx2)⟩
 refine CW.skip ?_;refine hK10 _ _ ?_;clear hK10;refine CW.sr fun K13 hK13=>WL.a rfl<|WL.nil (hK13 _ _ ?_);clear hK13;refine CW.ret ⟨_,rfl,?_⟩;exact⟨by rw [hval,nU,if_neg (by assumption),if_neg (by assumption)],(hx1.ae hx2)⟩
end Go.Proofs.YtmehkigmnpjcjaaGreatDoor
namespace Go.Proofs.YtmehkigmnpjcjaaGreatDoor
open Go.RowKit Go.Fw Go.Pl Go.Proofs.Tryz
theorem Gi(cv:Value)(cm:bx)(w:World)(hc:Bh w cv cm):Calls prog 111 #[cv] w (cB fun v w'=>v= .int .i64 (eY cm)∧Ext w w'):=by
 obtain⟨pv,ov,rfl,hp,ho,hau,hno⟩:=hc;have hoS:=ho;obtain⟨A,m,c,rfl,hm,hmc,hcm,hps⟩:=hp;obtain⟨B,k,d,rfl,hk,hkd,hdm,hos⟩:=ho;unfold maxLen at hcm hdm;refine ar 64 [2] [(0,.agg (dt (.slice A m c) cm.author cm.note (.slice B k d)).toArray)] func111 rfl rfl rfl aL du ?_;refine CW.sr fun K1 hK1=>WL.box rfl rfl aw fun g1 w1 hx1 hg1 hB1=>?_;have hM1:=hB1.mem;refine WL.a rfl<|WL.nil (hK1 _ _ ?_);clear hK1;refine CW.seq fun K2 hK2=>CW.sr fun K3 hK3=>WL.v (Y.fieldAddr bC rfl)<|WL.v (Y.ah underlying25 rfl hM1.kA rfl)<|WL.v (Y.aq underlying25 rfl)<|WL.v (Y.gtr rfl rfl)<|WL.nil (hK3 _ _ ?_);clear hK3;refine bp ?_ ?_<;>intro ht4
 ·refine CW.sr fun K5 hK5=>WL.a rfl<|WL.nil (hK5 _ _ ?_);clear hK5;refine CW.ret ⟨_,rfl,?_⟩;exact⟨by rw [eY,if_pos ai],hx1⟩
 refine CW.skip ?_;refine hK2 _ _ ?_;clear hK2;refine CW.seq fun K6 hK6=>CW.sr fun K7 hK7=>WL.v (Y.fieldAddr bC rfl)<|WL.v (Y.ah underlying25 rfl hM1.kA rfl)<|WL.v (Y.aq underlying25 rfl)<|WL.m rfl<|WL.nil (hK7 _ _ ?_);clear hK7;refine CW.block ?_;refine CW.loop (X:=Nat) (fun x=>[(1,.pointer (some ⟨g1,0,none⟩)),(12,.int .i64 (m:Int)),(13,.int .i64 (x:Int))]) (fun x w0=>x≤m∧(∀i a b,i+1<x→cm.parents[i]? =some a→cm.parents[i+1]? =some b→bX a b=true)∧Ext w w0∧Mem w0 ⟨g1,0,none⟩ (dt (.slice A m c) cm.author cm.note (.slice B k d))) (fun x=>m-x) 0 (Fr.le.cons rfl (Fr.le.cons rfl (Fr.le.cons rfl Fr.le.nil))) ⟨by omega,fun i a b h=>by omega,hx1,hM1⟩ ?_;intro x w2 hl2;obtain⟨hi,hrs,hL2,hM1⟩:=hl2;refine CW.sr fun K8 hK8=>WL.v (Y.lss rfl rfl)<|WL.nil (hK8 _ _ ?_);clear hK8;refine CW.seq fun K9 hK9=>?_;refine bp ?_ ?_<;>intro ht10
 ·refine CW.skip ?_;refine hK9 _ _ ?_;clear hK9;refine CW.seq fun K11 hK11=>?_;refine CW.block<|CW.sr fun K12 hK12=>WL.m rfl<|WL.a rfl<|WL.nil (hK12 _ _ ?_);clear hK12;obtain⟨b,hb⟩:∃b,cm.parents[x]? =some b:=⟨_,List.getElem?_eq_getElem ai⟩;obtain⟨a,ha⟩:∃a,cm.parents[((x:Int)-1).toNat]? =some a:=⟨_,List.getElem?_eq_getElem ai⟩;obtain⟨ad,rfl,hmb⟩:=hps _ b hb;obtain⟨ad',e,hma⟩:=hps _ a ha;injection e with e;subst e
  refine CW.cP 32 (0<x∧bX a b=false) ?_ ?_
  ·refine CW.quiet (fun wq=>Ext w2 wq) aG aG aE.drew<|QL.m rfl<|QL.v (fun wq hq=>Y.gtr rfl rfl)<|QL.m rfl ?_;refine dO ?_ ?_<;>intro hg18
   ·refine QL.g rfl rfl (fun wq hq=>Y.fieldAddr bC rfl)<|QL.g rfl rfl (fun wq hq=>Y.ah underlying25 rfl (hM1.ext hq).kA rfl)<|QL.g rfl rfl (fun wq hq=>Y.move rfl)<|QL.g rfl rfl (fun wq hq=>Y.sub rfl rfl bB)<|QL.g rfl rfl (fun wq hq=>Y.indexAddr underlying25 rfl rfl aJ ai ai)<|QL.g rfl rfl (fun wq hq=>Y.load underlying42 rfl (hma.ext (hL2.ae hq)) (aj _) rfl)<|QL.g rfl rfl (fun wq hq=>Y.fieldAddr bC rfl)<|QL.g rfl rfl (fun wq hq=>Y.ah underlying25 rfl (hM1.ext hq).kA rfl)<|QL.g rfl rfl (fun wq hq=>Y.move rfl)<|QL.g rfl rfl (fun wq hq=>Y.af underlying25 rfl rfl aJ ai)<|QL.g rfl rfl (fun wq hq=>Y.load underlying42 rfl (hmb.ext (hL2.ae hq)) (aj _) rfl)<|QL.lz rfl rfl func73 rfl rfl rfl (fun wq hq=>cA (oX _ _ _) hq) aw<|QL.g rfl rfl (fun wq hq=>Y.not rfl) ?_;refine QL.v (fun wq hq=>Y.pick rfl rfl)<|QL.nil fun wq hq=>⟨⟨_,rfl,?_⟩,hq,Fr.cT⟩;exact aH
   ·refine QL.o rfl rfl<|QL.o rfl rfl<|QL.o rfl rfl<|QL.o rfl rfl<|QL.o rfl rfl<|QL.o rfl rfl<|QL.o rfl rfl<|QL.o rfl rfl<|QL.o rfl rfl<|QL.o rfl rfl<|QL.o rfl rfl<|QL.o rfl rfl<|QL.o rfl rfl ?_;refine QL.v (fun wq hq=>Y.pick rfl rfl)<|QL.nil fun wq hq=>⟨⟨_,rfl,?_⟩,hq,Fr.cT⟩;exact aH
  intro w3 hx3;have hM1:=hM1.ext hx3;refine bp ?_ ?_<;>intro ht13
  ·refine CW.sr fun K14 hK14=>WL.a rfl<|WL.nil (hK14 _ _ ?_);clear hK14;refine CW.ret ⟨_,rfl,?_⟩;exact⟨by
    rw [eY,if_neg ai,if_pos (Bool.eq_false_iff.2 fun h=>?_)];have h0:((x:Int)-1).toNat+1=x:=by omega
    have:=(iU _).1 h _ a b ha (by rw [h0];exact hb);simp_all,(hL2.ae hx3)⟩
  refine CW.skip ?_;refine hK11 _ _ ?_;clear hK11;refine CW.region<|WL.v (Y.add rfl rfl bB)<|WL.m rfl<|WL.nil ?_;refine⟨x+1,by omega,(Fr.le.cons rfl (Fr.le.cons rfl (Fr.le.cons rfl Fr.le.nil))),by omega,fun i p q h hp hq=>?_,(hL2.ae hx3),hM1⟩;by_cases hix:i+1<x
  ·exact hrs i p q hix hp hq
  ·have h0:i+1=x:=by omega
   have h1:((x:Int)-1).toNat=i:=by omega
   rw [h1,hp]at ha;rw [←h0,hq]at hb;injection ha with ha;injection hb with hb
   subst ha;subst hb;cases hlb:bX p q with
   |true=>rfl
   |false=>simp_all
 refine CW.exit ?_;refine hK6 _ _ ?_;clear hK6;refine CW.seq fun K15 hK15=>?_;refine CW.block<|CW.seq fun K16 hK16=>?_;have hrise:je cm.parents=true:=(iU _).2 fun i p q hp hq=>hrs i p q (by have:=(List.getElem?_eq_some_iff.1 hq).1;omega) hp hq;refine CW.region<|WL.v (Y.fieldAddr fy rfl)<|WL.v (Y.ah underlying9 rfl hM1.BF rfl)<|WL.call func11 rfl rfl rfl ((wR _ _ hau)) aL ?_;rintro v w4 ⟨rfl,hx4⟩;have hM1:=hM1.ext hx4;refine WL.v (Y.not rfl)<|WL.a rfl<|WL.nil (hK16 _ _ ?_);clear hK16;refine bp ?_ ?_<;>intro ht17
 ·refine CW.sr fun K18 hK18=>WL.a rfl<|WL.nil (hK18 _ _ ?_);clear hK18;refine CW.ret ⟨_,rfl,?_⟩;exact⟨by rw [eY,if_neg ai,if_neg (by simp [hrise]),if_pos (by simp_all)],(hL2.ae hx4)⟩
 refine CW.sr fun K19 hK19=>WL.v (Y.fieldAddr fC rfl)<|WL.v (Y.ah underlying9 rfl hM1.BR rfl)<|WL.v (Y.aM underlying9 rfl)<|WL.v (Y.gtr rfl rfl)<|WL.a rfl<|WL.nil (hK19 _ _ ?_);clear hK19;refine bp ?_ ?_<;>intro ht20
 ·refine CW.sr fun K21 hK21=>WL.a rfl<|WL.nil (hK21 _ _ ?_);clear hK21;refine CW.ret ⟨_,rfl,?_⟩;exact⟨by rw [eY,if_neg ai,if_neg (by simp [hrise]),if_neg (by simp_all),if_pos ai],(hL2.ae hx4)⟩
 refine CW.sr fun K22 hK22=>WL.v (Y.fieldAddr bq rfl)<|WL.v (Y.ah underlying27 rfl hM1.jo rfl)<|WL.v (Y.aq underlying27 rfl)<|WL.v (Y.gtr rfl rfl)<|WL.a rfl<|WL.nil (hK22 _ _ ?_);clear hK22;refine bp ?_ ?_<;>intro ht23
 ·refine CW.sr fun K24 hK24=>WL.a rfl<|WL.nil (hK24 _ _ ?_);clear hK24;refine CW.ret ⟨_,rfl,?_⟩;exact⟨by rw [eY,if_neg ai,if_neg (by simp [hrise]),if_neg (by simp_all),if_neg ai,if_pos ai],(hL2.ae hx4)⟩
 refine CW.skip ?_;refine hK15 _ _ ?_;clear hK15;refine CW.seq fun K25 hK25=>CW.seq fun K26 hK26=>?_;have hm5:eY cm=nQ cm.ops:=by rw [eY,if_neg ai,if_neg (by simp [hrise]),if_neg (by simp_all),if_neg ai,if_neg ai]
 refine CW.region<|WL.v (Y.fieldAddr bq rfl)<|WL.v (Y.ah underlying27 rfl hM1.jo rfl)<|WL.v (Y.aq underlying27 rfl)<|WL.m rfl<|WL.nil (hK26 _ _ ?_);clear hK26;refine CW.block ?_;refine CW.loop (X:=Nat) (fun x=>[(1,.pointer (some ⟨g1,0,none⟩)),(51,.int .i64 (k:Int)),(52,.int .i64 (x:Int))]) (fun x w0=>x≤k∧(∀j:Nat,j<x→dn cm.ops (j+1)=0)∧Ext w w0∧Mem w0 ⟨g1,0,none⟩ (dt (.slice A m c) cm.author cm.note (.slice B k d))) (fun x=>k-x) 0 (Fr.le.cons rfl (Fr.le.cons rfl (Fr.le.cons rfl Fr.le.nil))) ⟨by omega,fun j h=>by omega,(hL2.ae hx4),hM1⟩ ?_;intro x w5 hl5;obtain⟨hi,hrs,hL5,hM1⟩:=hl5;refine CW.sr fun K27 hK27=>WL.v (Y.lss rfl rfl)<|WL.nil (hK27 _ _ ?_);clear hK27;refine CW.seq fun K28 hK28=>?_;refine bp ?_ ?_<;>intro ht29
 ·refine CW.skip ?_;refine hK28 _ _ ?_;clear hK28;refine CW.seq fun K30 hK30=>?_;refine CW.block<|CW.sr fun K31 hK31=>WL.m rfl<|WL.a rfl<|WL.nil (hK31 _ _ ?_);clear hK31;refine CW.sr fun K32 hK32=>WL.v (Y.fieldAddr bq rfl)<|WL.v (Y.ah underlying27 rfl hM1.jo rfl)<|WL.m rfl<|WL.v (Y.add rfl rfl bB)<|WL.call func72 rfl rfl rfl ((ue _ _ _ _ (hoS.ext hL5) bB)) aL ?_;rintro v w6 ⟨rfl,hx6⟩;have hM1:=hM1.ext hx6;refine WL.a rfl<|WL.nil (hK32 _ _ ?_);clear hK32;refine CW.sr fun K33 hK33=>WL.m rfl<|WL.v (Y.neq rfl rfl)<|WL.nil (hK33 _ _ ?_);clear hK33;refine bp ?_ ?_<;>intro ht34
  ·refine CW.sr fun K35 hK35=>WL.m rfl<|WL.a rfl<|WL.nil (hK35 _ _ ?_);clear hK35;refine CW.ret ⟨_,rfl,?_⟩;exact⟨by rw [hm5,u4 hrs ai (by assumption)],(hL5.ae hx6)⟩
  refine CW.skip ?_;refine hK30 _ _ ?_;clear hK30;refine CW.region<|WL.v (Y.add rfl rfl bB)<|WL.m rfl<|WL.nil ?_;refine⟨x+1,by omega,(Fr.le.cons rfl (Fr.le.cons rfl (Fr.le.cons rfl Fr.le.nil))),by omega,fun j h=>?_,(hL5.ae hx6),hM1⟩;by_cases hj:j<x
  ·exact hrs j hj
  ·obtain rfl:j=x:=by omega
   simpa using(by assumption:¬dn cm.ops ((j:Int)+1)≠0)
 refine CW.exit ?_;refine hK25 _ _ ?_;clear hK25;refine CW.sr fun K36 hK36=>WL.a rfl<|WL.nil (hK36 _ _ ?_);clear hK36;refine CW.ret ⟨_,rfl,?_⟩;exact⟨by rw [hm5,oy (fun j h=>hrs j ai)],hL5⟩
theorem DC(cv:Value)(cm:bx)(w:World)(hc:Bh w cv cm):Calls prog 102 #[cv] w (cB fun v w'=>v= .int .i64 (eY cm)∧Ext w w'):=by
 obtain⟨pv,ov,rfl,hp,ho,hau,hno⟩:=hc;have hoS:=ho;obtain⟨A,m,c,rfl,hm,hmc,hcm,hps⟩:=hp;obtain⟨B,k,d,rfl,hk,hkd,hdm,hos⟩:=ho;unfold maxLen at hcm hdm;refine ar 56 [2] [(0,.agg (dt (.slice A m c) cm.author cm.note (.slice B k d)).toArray)] func102 rfl rfl rfl aL du ?_;refine CW.sr fun K1 hK1=>WL.box rfl rfl aw fun g1 w1 hx1 hg1 hB1=>?_;have hM1:=hB1.mem;refine WL.a rfl<|WL.nil (hK1 _ _ ?_);clear hK1;refine CW.seq fun K2 hK2=>CW.sr fun K3 hK3=>WL.v (Y.fieldAddr bC rfl)<|WL.v (Y.ah underlying25 rfl hM1.kA rfl)<|WL.v (Y.aq underlying25 rfl)<|WL.v (Y.gtr rfl rfl)<|WL.nil (hK3 _ _ ?_);clear hK3;refine bp ?_ ?_<;>intro ht4
 ·refine CW.sr fun K5 hK5=>WL.a rfl<|WL.nil (hK5 _ _ ?_);clear hK5;refine CW.ret ⟨_,rfl,?_⟩;exact⟨by rw [eY,if_pos ai],hx1⟩
 refine CW.skip ?_;refine hK2 _ _ ?_;clear hK2;refine CW.seq fun K6 hK6=>CW.sr fun K7 hK7=>WL.a rfl<|WL.nil (hK7 _ _ ?_);clear hK7;refine CW.block ?_;refine CW.loop (X:=Nat) (fun x=>[(1,.pointer (some ⟨g1,0,none⟩)),(3,.int .i64 (x:Int))]) (fun x w0=>1≤x∧x≤m+1∧(∀i a b,i+1<x→cm.parents[i]? =some a→cm.parents[i+1]? =some b→bX a b=true)∧Ext w w0∧Mem w0 ⟨g1,0,none⟩ (dt (.slice A m c) cm.author cm.note (.slice B k d))) (fun x=>m+1-x) 1 (Fr.le.cons rfl (Fr.le.cons rfl Fr.le.nil)) ⟨by omega,by omega,fun i a b h=>by omega,hx1,hM1⟩ ?_;intro x w2 hl2;obtain⟨hi1,hi,hrs,hL2,hM1⟩:=hl2;refine CW.seq fun K8 hK8=>CW.sr fun K9 hK9=>WL.m rfl<|WL.v (Y.fieldAddr bC rfl)<|WL.v (Y.ah underlying25 rfl hM1.kA rfl)<|WL.v (Y.aq underlying25 rfl)<|WL.v (Y.lss rfl rfl)<|WL.nil (hK9 _ _ ?_);clear hK9;refine bp ?_ ?_<;>intro ht10
 ·refine CW.skip ?_;refine hK8 _ _ ?_;clear hK8;refine CW.seq fun K11 hK11=>?_;obtain⟨b,hb⟩:∃b,cm.parents[x]? =some b:=⟨_,List.getElem?_eq_getElem ai⟩;obtain⟨a,ha⟩:∃a,cm.parents[((x:Int)-1).toNat]? =some a:=⟨_,List.getElem?_eq_getElem ai⟩;obtain⟨ad,rfl,hmb⟩:=hps _ b hb;obtain⟨ad',e,hma⟩:=hps _ a ha;injection e with e;subst e
  refine CW.block<|CW.seq fun K12 hK12=>CW.quiet (fun wq=>Ext w2 wq) aG aG aE.drew<|QL.v (fun wq hq=>Y.fieldAddr bC rfl)<|QL.v (fun wq hq=>Y.ah underlying25 rfl (hM1.ext hq).kA rfl)<|QL.m rfl<|QL.v (fun wq hq=>Y.sub rfl rfl bB)<|QL.v (fun wq hq=>Y.indexAddr underlying25 rfl rfl aJ ai ai)<|QL.v (fun wq hq=>Y.load underlying42 rfl (hma.ext (hL2.ae hq)) (aj _) rfl)<|QL.v (fun wq hq=>Y.fieldAddr bC rfl)<|QL.v (fun wq hq=>Y.ah underlying25 rfl (hM1.ext hq).kA rfl)<|QL.m rfl<|QL.v (fun wq hq=>Y.af underlying25 rfl rfl aJ ai) ?_;refine QL.v (fun wq hq=>Y.load underlying42 rfl (hmb.ext (hL2.ae hq)) (aj _) rfl)<|QL.call func89 rfl rfl rfl (fun wq hq=>cA (ni _ _ _) hq) aL<|QL.v (fun wq hq=>Y.not rfl)<|QL.nil fun w3 hx3=>?_;have hM1:=hM1.ext hx3;refine hK12 _ _ ?_;clear hK12;refine bp ?_ ?_<;>intro ht13
  ·refine CW.sr fun K14 hK14=>WL.a rfl<|WL.nil (hK14 _ _ ?_);clear hK14;refine CW.ret ⟨_,rfl,?_⟩;exact⟨by
    rw [eY,if_neg ai,if_pos (Bool.eq_false_iff.2 fun h=>?_)];have h0:((x:Int)-1).toNat+1=x:=by omega
    have:=(iU _).1 h _ a b ha (by rw [h0];exact hb);simp_all,(hL2.ae hx3)⟩
  refine CW.skip ?_;refine hK11 _ _ ?_;clear hK11;refine CW.region<|WL.m rfl<|WL.v (Y.add rfl rfl bB)<|WL.a rfl<|WL.nil ?_;refine⟨x+1,by omega,(Fr.le.cons rfl (Fr.le.cons rfl Fr.le.nil)),by omega,by omega,fun i p q h hp hq=>?_,(hL2.ae hx3),hM1⟩;by_cases hix:i+1<x
  ·exact hrs i p q hix hp hq
  ·have h0:i+1=x:=by omega
   have h1:((x:Int)-1).toNat=i:=by omega
   rw [h1,hp]at ha;rw [←h0,hq]at hb;injection ha with ha;injection hb with hb
   subst ha;subst hb;cases hlb:bX p q with
   |true=>rfl
   |false=>simp_all
 refine CW.exit ?_;refine hK6 _ _ ?_;clear hK6;refine CW.seq fun K15 hK15=>CW.seq fun K16 hK16=>?_;have hrise:je cm.parents=true:=(iU _).2 fun i p q hp hq=>hrs i p q (by have:=(List.getElem?_eq_some_iff.1 hq).1;omega) hp hq;refine CW.region<|WL.v (Y.fieldAddr fy rfl)<|WL.v (Y.ah underlying9 rfl hM1.BF rfl)<|WL.call func15 rfl rfl rfl ((uL _ _ hau)) aL ?_;rintro v w4 ⟨rfl,hx4⟩;have hM1:=hM1.ext hx4;refine WL.v (Y.not rfl)<|WL.nil (hK16 _ _ ?_);clear hK16;refine bp ?_ ?_<;>intro ht17
 ·refine CW.sr fun K18 hK18=>WL.a rfl<|WL.nil (hK18 _ _ ?_);clear hK18;refine CW.ret ⟨_,rfl,?_⟩;exact⟨by rw [eY,if_neg ai,if_neg (by simp [hrise]),if_pos (by simp_all)],(hL2.ae hx4)⟩
 refine CW.skip ?_;refine hK15 _ _ ?_;clear hK15;refine CW.seq fun K19 hK19=>CW.sr fun K20 hK20=>WL.v (Y.fieldAddr fC rfl)<|WL.v (Y.ah underlying9 rfl hM1.BR rfl)<|WL.v (Y.aM underlying9 rfl)<|WL.v (Y.gtr rfl rfl)<|WL.nil (hK20 _ _ ?_);clear hK20;refine bp ?_ ?_<;>intro ht21
 ·refine CW.sr fun K22 hK22=>WL.a rfl<|WL.nil (hK22 _ _ ?_);clear hK22;refine CW.ret ⟨_,rfl,?_⟩;exact⟨by rw [eY,if_neg ai,if_neg (by simp [hrise]),if_neg (by simp_all),if_pos ai],(hL2.ae hx4)⟩
 refine CW.skip ?_;refine hK19 _ _ ?_;clear hK19;refine CW.seq fun K23 hK23=>CW.sr fun K24 hK24=>WL.v (Y.fieldAddr bq rfl)<|WL.v (Y.ah underlying27 rfl hM1.jo rfl)<|WL.v (Y.aq underlying27 rfl)<|WL.v (Y.gtr rfl rfl)<|WL.nil (hK24 _ _ ?_);clear hK24;refine bp ?_ ?_<;>intro ht25
 ·refine CW.sr fun K26 hK26=>WL.a rfl<|WL.nil (hK26 _ _ ?_);clear hK26;refine CW.ret ⟨_,rfl,?_⟩;exact⟨by rw [eY,if_neg ai,if_neg (by simp [hrise]),if_neg (by simp_all),if_neg ai,if_pos ai],(hL2.ae hx4)⟩
 refine CW.skip ?_;refine hK23 _ _ ?_;clear hK23;refine CW.seq fun K27 hK27=>CW.seq fun K28 hK28=>?_;have hm5:eY cm=nQ cm.ops:=by rw [eY,if_neg ai,if_neg (by simp [hrise]),if_neg (by simp_all),if_neg ai,if_neg ai]
 refine CW.region<|WL.a rfl<|WL.nil (hK28 _ _ ?_);clear hK28;refine CW.block ?_;refine CW.loop (X:=Nat) (fun x=>[(1,.pointer (some ⟨g1,0,none⟩)),(4,.int .i64 ((x:Int)+1))]) (fun x w0=>x≤k∧(∀j:Nat,j<x→dn cm.ops (j+1)=0)∧Ext w w0∧Mem w0 ⟨g1,0,none⟩ (dt (.slice A m c) cm.author cm.note (.slice B k d))) (fun x=>k-x) 0 (Fr.le.cons rfl (Fr.le.cons rfl Fr.le.nil)) ⟨by omega,fun j h=>by omega,(hL2.ae hx4),hM1⟩ ?_;intro x w5 hl5;obtain⟨hi,hrs,hL5,hM1⟩:=hl5;refine CW.seq fun K29 hK29=>CW.sr fun K30 hK30=>WL.m rfl<|WL.v (Y.fieldAddr bq rfl)<|WL.v (Y.ah underlying27 rfl hM1.jo rfl)<|WL.v (Y.aq underlying27 rfl)<|WL.v (Y.leq rfl rfl)<|WL.nil (hK30 _ _ ?_);clear hK30;refine bp ?_ ?_<;>intro ht31
 ·refine CW.skip ?_;refine hK29 _ _ ?_;clear hK29;refine CW.seq fun K32 hK32=>?_;refine CW.block<|CW.sr fun K33 hK33=>WL.v (Y.fieldAddr bq rfl)<|WL.v (Y.ah underlying27 rfl hM1.jo rfl)<|WL.m rfl<|WL.call func90 rfl rfl rfl ((sn _ _ _ _ (hoS.ext hL5) bB)) aL ?_;rintro v w6 ⟨rfl,hx6⟩;have hM1:=hM1.ext hx6;refine WL.a rfl<|WL.nil (hK33 _ _ ?_);clear hK33;refine CW.sr fun K34 hK34=>WL.m rfl<|WL.v (Y.neq rfl rfl)<|WL.nil (hK34 _ _ ?_);clear hK34;refine bp ?_ ?_<;>intro ht35
  ·refine CW.sr fun K36 hK36=>WL.m rfl<|WL.a rfl<|WL.nil (hK36 _ _ ?_);clear hK36;refine CW.ret ⟨_,rfl,?_⟩;exact⟨by rw [hm5,u4 hrs ai (by assumption)],(hL5.ae hx6)⟩
  refine CW.skip ?_;refine hK32 _ _ ?_;clear hK32;refine CW.region<|WL.m rfl<|WL.v (Y.add rfl rfl bB)<|WL.a rfl<|WL.nil ?_;refine⟨x+1,by omega,(Fr.le.cons rfl (Fr.le.cons rfl Fr.le.nil)),by omega,fun j h=>?_,(hL5.ae hx6),hM1⟩;by_cases hj:j<x
  ·exact hrs j hj
  ·obtain rfl:j=x:=by omega
   simpa using(by assumption:¬dn cm.ops ((j:Int)+1)≠0)
 refine CW.exit ?_;refine hK27 _ _ ?_;clear hK27;refine CW.sr fun K37 hK37=>WL.a rfl<|WL.nil (hK37 _ _ ?_);clear hK37;refine CW.ret ⟨_,rfl,?_⟩;exact⟨by rw [hm5,oy (fun j h=>hrs j ai)],hL5⟩
end Go.Proofs.YtmehkigmnpjcjaaGreatDoor
