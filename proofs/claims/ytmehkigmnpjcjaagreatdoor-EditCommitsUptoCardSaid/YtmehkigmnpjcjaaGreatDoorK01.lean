/- Parts of a proof: what its last text leans on. No condition. -/
import Derived.Calls
import Derived.Tactics
import Derived.Below
import Derived.Deep.Quiet
import Derived.Laws.Rows
import Derived.Laws.AppendOwn
import Derived.RangeFuncRecord
import Derived.TacticsIn
import Derived.OrdersIn
import Derived.StillTail
import Derived.WalkKit
import Derived.WalkLawsBesides
import Derived.WalkSpells
import Derived.IntWalk
set_option linter.unusedSimpArgs false
set_option linter.unusedVariables false
namespace Go
theorem aL{p:Prop}(h:p:=by simp):p:=h
theorem ai{p:Prop}(h:p:=by omega):p:=h
theorem aw{p:Prop}(h:p:=by decide):p:=h
theorem aG{p:Prop}(h:p:=by kernel_rfl):p:=h
theorem dP{p:Prop}(h:p:=by first|decide|exact Nat.le_of_ble_eq_true rfl):p:=h
theorem cq{p:Prop}(h:p→False:=by intro h;omega):¬p:=h
theorem bB{p q:Prop}(h:p:=by omega)(k:q:=by omega):p∧q:=⟨h,k⟩
theorem j0{p:Prop}(h:p:=by first|rfl|(simp [ag,aC];done)|(simp only [ag,aC];omega)):p:=h
end Go
namespace Go.Fw
open Go.RowKit
abbrev Fr:=List (Nat×Value)
def Fr.get:Fr→Nat→Option Value
 | [],_=>none
 |(t,v)::r,u=>cond (Nat.beq t u) (some v) (Fr.get r u)
def Fr.le(a b:Fr):Prop:=∀t v,a.get t=some v→b.get t=some v
theorem Fr.le.nil{b:Fr}:Fr.le [] b:=fun _ _ h=>by cases h
theorem Fr.le.cons{t:Nat}{v:Value}{a b:Fr}(h:b.get t=some v)(h':Fr.le a b):Fr.le ((t,v)::a) b:=by
 intro u x hu;simp only [Fr.get]at hu;by_cases e:Nat.beq t u=true
 ·rw [e]at hu;simp only [cond_true,Option.some.injEq]at hu;have:t=u:=Nat.eq_of_beq_eq_true e;subst this;subst hu;exact h
 ·have e':Nat.beq t u=false:=Bool.eq_false_iff.2 e;rw [e']at hu;exact h' u x hu
theorem Fr.le.refl{a:Fr}:Fr.le a a:=fun _ _ h=>h
theorem Fr.le.push{a b:Fr}{d:Nat}{v:Value}(hd:a.get d=none)(h:Fr.le a b):Fr.le a ((d,v)::b):=by
 intro u x hu;simp only [Fr.get];by_cases e:Nat.beq d u=true
 ·have:d=u:=Nat.eq_of_beq_eq_true e;subst this;rw [hd]at hu;cases hu
 ·have e':Nat.beq d u=false:=Bool.eq_false_iff.2 e;rw [e'];exact h u x hu
abbrev NN:=Nat×List Deferred×Option Nat
structure ju(n:NN)(a:Act)(fr:Fr):Prop where
 size:a.tmps.size=n.1
 defers:a.defers=n.2.1
 get:∀t v,fr.get t=some v→a.tmps[t]? =some v
theorem ju.weaken{n:NN}{a:Act}{f g:Fr}(h:ju n a f)(hl:Fr.le g f):ju n a g:=⟨h.size,h.defers,fun t v hv=>h.get t v (hl t v hv)⟩
theorem ju.nil{n:NN}{a:Act}(h:a.tmps.size=n.1)(hd:a.defers=n.2.1):ju n a []:=⟨h,hd,fun _ _ h=>by cases h⟩
theorem ju.put{n:NN}{a:Act}{f:Fr}(h:ju n a f){d:Nat}(hd:d<n.1)(v:Value):ju n (a.put (some d) v) ((d,v)::f):=by
 refine⟨by simp [Act.put,h.size],h.defers,fun t x hx=>?_⟩;simp only [Fr.get]at hx;by_cases e:Nat.beq d t=true
 ·rw [e]at hx;simp only [cond_true,Option.some.injEq]at hx;have:d=t:=Nat.eq_of_beq_eq_true e;subst this;subst hx;simp [Act.put,Array.getElem?_setIfInBounds,h.size,hd]
 ·have e':Nat.beq d t=false:=Bool.eq_false_iff.2 e;rw [e']at hx;have hne:d≠t:=fun h'=>e (by rw [h'];exact Nat.beq_refl t);have:=h.get t x hx;simp [Act.put,Array.getElem?_setIfInBounds,hne,this]
def ev(fr:Fr):Operand→Option Value
 | .tmp t=>fr.get t
 | .const v=>some v
 | .global g=>some (.pointer (some ⟨g,0,none⟩))
 | .func f=>some (.func (.func f) #[] #[])
theorem ju.ev{n:NN}{a:Act}{f:Fr}(h:ju n a f){x:Operand}{v:Value}(hx:Fw.ev f x=some v):a.eval x=v:=by
 cases x with
 |tmp t=>have:=h.get t v hx;simp [Act.eval,this]
 |const u=>simpa [Fw.ev,Act.eval]using hx
 |global g=>simpa [Fw.ev,Act.eval]using hx
 |func g=>simpa [Fw.ev,Act.eval]using hx
def pY(fr:Fr):List Operand→Option (List Value)
 | []=>some []
 |x::r=>match ev fr x,pY fr r with
  |some v,some vs=>some (v::vs)
  |_,_=>none
theorem ju.pY{n:NN}{a:Act}{f:Fr}(h:ju n a f):∀{xs:List Operand} {vs:List Value},Fw.pY f xs=some vs→xs.map a.eval=vs
 | [],vs,e=>by simpa [Fw.pY]using e
 |x::r,vs,e=>by
  simp only [Fw.pY]at e;split at e
  ·rename_i v us h1 h2;simp only [Option.some.injEq]at e;subst e;simp only [List.map_cons,h.ev h1,h.pY h2]
  ·cases e
def lift(n:NN)(Φ:Exit→Fr→World→Prop):Exit→Act→World→Prop:=fun e a w=>∃fr,ju n a fr∧Φ e fr w
@[reducible] def mL(K:Fr→World→Prop)(Φ:Exit→Fr→World→Prop):Exit→Fr→World→Prop
 | .normal,f,w=>K f w
 |e,f,w=>Φ e f w
@[reducible] def Ew(id:Nat)(Φ:Exit→Fr→World→Prop):Exit→Fr→World→Prop
 | .exit id',f,w=>if id'=id then Φ .normal f w else Φ (.exit id') f w
 |e,f,w=>Φ e f w
def FX(rd:Option Nat):Fence:={fn:=fun _=>True,depth:=none,alive:=false,round:=rd}
theorem oq{rd:Option Nat}{k:Nat}{P:Program}{f:FuncId}{args:Array Value}{w:World}{R:Ending→World→Prop}:CallsIn (FX rd) k P f args w R↔Calls P f args w R:=callsIn_wide
theorem F0{rd:Option Nat}(k:Nat):(FX rd).room k:=fun _ h=>by simp [FX]at h
theorem CM{rd:Option Nat}{k:Nat}{P:Program}{row:String}{args:Array Value}{w:World}{R:Value→World→Prop}(h:Rows P row args w R):RowsIn (FX rd) k P row args w R:=
 fun c cs _=>let⟨v,w',r,s⟩:=h c cs;⟨v,w',r,stepsIn_wide.2 s⟩
def jd:List Oper→Bool
 | []=>true
 |o::r=>match o.op with
  | .defer _=>false
  |_=>jd r
theorem oE:∀{l:List Oper} {i:Nat} {o:Oper},jd l=true→l[i]? =some o→∀c,o.op≠.defer c
 | [],_,_,_,h=>by simp at h
 |x::r,i,o,hn,h=>by
  intro c hc;cases i with
  |zero=>
   simp at h;subst h;simp [jd,hc]at hn
  |succ i=>
   have hn':jd r=true:=by
    unfold jd at hn;split at hn
    ·cases hn
    ·exact hn
   exact oE hn' (by simpa using h) c hc
theorem oG{rd:Option Nat}{P:Program}{o:Oper}{a:Act}{w:World}{next:Act→World→Prop}{Q:Exit→Act→World→Prop}(hd:∀c,o.op≠.defer c)(h:o.wp P a w next Q):o.wpIn (FX rd) 0 P a w next Q:=by
 unfold Oper.wpIn;refine⟨fun _ _=>trivial,?_⟩;rw [Oper.semAt_eq _ _ _ hd];unfold Oper.wp at h;generalize(execOp a.eval o).run P w=r at*;cases r with
 |ok x w'=>
  cases x with
  |value v=>exact h
  |skip=>exact h
  |defer d=>exact h
  |enter f args=>exact⟨fun hx=>by simp [FX]at hx,oq.2 h⟩
  |row row args=>exact⟨fun hx=>by simp [FX]at hx,CM h⟩
  |_=>exact h.elim
 |halt x w'=>cases x<;>first|exact h|exact h.elim
theorem kx{rd:Option Nat}{P:Program}{ops:List Oper}{Q:Exit→Act→World→Prop}(hd:jd ops=true)(hO:¬LetsOut Q):∀(l:List Nat) (a:Act) (w:World),wpOps P ops.toArray Q l a w→wpOpsIn (FX rd) 0 P ops.toArray Q l a w
 | [],_,_,h=>h
 |i::rest,a,w,h=>by
  unfold wpOps at h;unfold wpOpsIn;cases hi:ops.toArray[i]? with
  |none=>simp only [hi]at h⊢;exact kx hd hO rest a w h
  |some o=>
   simp only [hi]at h⊢;by_cases hw:Region.wanted o (yielded ops.toArray a.tmps)=true
   ·rw [if_pos hw]at h⊢;rcases h with h|⟨_,h⟩
    ·exact oG (oE hd (by simpa using hi)) (Oper.wp_mono (fun a w=>kx hd hO rest a w) h)
    ·exact absurd h hO
   ·rw [if_neg hw]at h⊢;exact⟨fun _ _=>trivial,kx hd hO rest _ w h⟩
abbrev tR(n:NN)(l:List Oper)(Φ:Exit→Fr→World→Prop):Prop:=n.2.2=none∨(jd l=true∧∀f w,Φ .outgrown f w→False)
theorem tR.out{n:NN}{Φ:Exit→Fr→World→Prop}(h:∀f w,Φ .outgrown f w→False):¬LetsOut (lift n Φ):=fun⟨_,w,f,_,hp⟩=>h f w hp
theorem Cx{P:Program}{n:NN}{Φ:Exit→Fr→World→Prop}{id:Nat}{l:List Oper}{a:Act}{w:World}(hR:tR n l Φ)(h:wpList P l.toArray (lift n Φ) l a w):(Code.region id l.toArray false).wpIn (FX n.2.2) 0 P (lift n Φ) a w:=by
 rcases hR with hR|⟨hd,hO⟩
 ·rw [hR];exact wpIn_wide.2 (wp_region_lit h)
 ·refine wpIn_region (kx hd (tR.out hO) _ _ _ ?_);rw [List.range_eq_range',←Array.length_toList,wpOps_eq_wpList l.toArray.toList 0 aL];simpa using h
theorem nW{P:Program}{n:NN}{Φ:Exit→Fr→World→Prop}{id:Nat}{l:List Oper}{a:Act}{w:World}(hR:tR n l Φ)(hm:P.follows .mixedOrders=true)
  (h:wpAny P .any l.toArray (lift n Φ) l.toArray.size (Array.replicate l.toArray.size false) a {w with drawn:=w.drawn+1}):(Code.region id l.toArray true).wpIn (FX n.2.2) 0 P (lift n Φ) a w:=by
 rcases hR with hR|⟨hd,hO⟩
 ·rw [hR];exact wpIn_wide.2 (wp_region_any hm h)
 ·refine wpIn_region_draw fun t=>kx hd (tR.out hO) _ _ _ ?_;simp only [Region.schedule,hm,Bool.true_or,if_true];exact wpAny_sound _ t _ a _ h
def CW(P:Program)(c:Code)(n:NN)(Φ:Exit→Fr→World→Prop)(fr:Fr)(w:World):Prop:=∀a,ju n a fr→c.wpIn (FX n.2.2) 0 P (lift n Φ) a w
theorem CW.plain{P:Program}{c:Code}{n:NN}{Φ:Exit→Fr→World→Prop}{fr:Fr}{w:World}(hn:n.2.2=none):CW P c n Φ fr w↔∀a,ju n a fr→c.wp P (lift n Φ) a w:=by
 have e:FX n.2.2=Fence.wide:=by rw [hn];rfl
 unfold CW;rw [e];exact⟨fun h a ha=>wpIn_wide.1 (h a ha),fun h a ha=>wpIn_wide.2 (h a ha)⟩
def WL(P:Program)(ops:Array Oper)(n:NN)(Φ:Exit→Fr→World→Prop)(l:List Oper)(fr:Fr)(w:World):Prop:=∀a,ju n a fr→wpList P ops (lift n Φ) l a w
section rules
variable {P:Program} {n:NN} {Φ:Exit→Fr→World→Prop} {fr:Fr} {w:World}
theorem CW.weaken{c:Code}{g:Fr}(hl:Fr.le g fr)(h:CW P c n Φ g w):CW P c n Φ fr w:=fun a ha=>h a (ha.weaken hl)
theorem CW.mono{c:Code}{Ψ:Exit→Fr→World→Prop}(h:CW P c n Φ fr w)(hq:∀e f w,Φ e f w→Ψ e f w):CW P c n Ψ fr w:=
 fun a ha=>wpIn_mono (h a ha) fun e a w ⟨f,hf,hp⟩=>⟨f,hf,hq e f w hp⟩
theorem CW.seq{x y:Code}(h:∀K:Fr→World→Prop,(∀f w,CW P y n Φ f w→K f w)→CW P x n (mL K Φ) fr w):CW P (.seq x y) n Φ fr w:=by
 intro a ha;refine wpIn_seq (wpIn_mono (h (fun f w=>CW P y n Φ f w) (fun _ _ h=>h) a ha) ?_);rintro e a' w' ⟨f,hf,hp⟩;cases e<;>first|exact hp a' hf|exact⟨f,hf,hp⟩
theorem CW.skip(h:Φ .normal fr w):CW P .skip n Φ fr w:=fun _ ha=>wpIn_skip ⟨fr,ha,h⟩
theorem CW.ret(h:Φ .ret fr w):CW P .ret n Φ fr w:=fun _ ha=>wpIn_ret ⟨fr,ha,h⟩
theorem CW.exit{id:Nat}(h:Φ (.exit id) fr w):CW P (.exit id) n Φ fr w:=fun _ ha=>wpIn_exit ⟨fr,ha,h⟩
theorem CW.cond{c:Operand}{x y:Code}{t:Bool}(hc:ev fr c=some (.bool t))(ht:t=true→CW P x n Φ fr w)(hf:t=false→CW P y n Φ fr w):
  CW P (.cond c x y) n Φ fr w:=fun a ha=>wpIn_cond_split (ha.ev hc) (fun h=>ht h a ha) (fun h=>hf h a ha)
theorem CW.AG{c:Operand}{x y:Code}{p:Prop}{inst:Decidable p}(hc:ev fr c=some (.bool (@decide p inst)))(ht:p→CW P x n Φ fr w)(hf:¬p→CW P y n Φ fr w):
  CW P (.cond c x y) n Φ fr w:=CW.cond hc (fun h=>ht (@of_decide_eq_true p inst h)) (fun h=>hf (@of_decide_eq_false p inst h))
theorem CW.vD{c:Operand}{x y:Code}{p:Prop}{inst:Decidable p}(hc:ev fr c=some (.bool (!@decide p inst)))(ht:¬p→CW P x n Φ fr w)(hf:p→CW P y n Φ fr w):
  CW P (.cond c x y) n Φ fr w:=CW.cond hc (fun h=>ht (@of_decide_eq_false p inst (by simpa using h))) (fun h=>hf (@of_decide_eq_true p inst (by simpa using h)))
theorem CW.A0{c:Operand}{x y:Code}{b:Bool}(hc:ev fr c=some (.bool (!b)))(ht:b=false→CW P x n Φ fr w)(hf:b=true→CW P y n Φ fr w):
  CW P (.cond c x y) n Φ fr w:=CW.cond hc (fun h=>ht (by simpa using h)) (fun h=>hf (by simpa using h))
theorem CW.block{id:Nat}{c:Code}(h:CW P c n (Ew id Φ) fr w):CW P (.block id c) n Φ fr w:=by
 intro a ha;refine wpIn_block (wpIn_mono (h a ha) ?_);rintro e a' w' ⟨f,hf,hp⟩;cases e with
 |exit id'=>
  simp only [Ew]at hp;simp only [Exit.inBlock];split at hp<;>rename_i hid
  ·rw [if_pos hid];exact⟨f,hf,hp⟩
  ·rw [if_neg hid];exact⟨f,hf,hp⟩
 |normal=>exact⟨f,hf,hp⟩
 |goto l=>exact⟨f,hf,hp⟩
 |ret=>exact⟨f,hf,hp⟩
 |panic c=>exact⟨f,hf,hp⟩
 |outgrown=>exact⟨f,hf,hp⟩
theorem CW.bK{x y:Code}{X:Type}(g:X→Fr)(W:X→World→Prop)
  (h1:CW P x n (mL (fun f w'=>∃u,Fr.le (g u) f∧W u w') Φ) fr w) (h2:∀u w',W u w'→CW P y n Φ (g u) w'):CW P (.seq x y) n Φ fr w:=by
 intro a ha;refine wpIn_seq (wpIn_mono (h1 a ha) ?_);rintro e a' w' ⟨f,hf,hp⟩;cases e with
 |normal=>obtain⟨u,hl,hw⟩:=hp;exact h2 u w' hw a' (hf.weaken hl)
 |exit id'=>exact⟨f,hf,hp⟩
 |goto l=>exact⟨f,hf,hp⟩
 |ret=>exact⟨f,hf,hp⟩
 |panic c=>exact⟨f,hf,hp⟩
 |outgrown=>exact⟨f,hf,hp⟩
theorem CW.DB{x y:Code}(W:World→Prop)(h1:CW P x n (mL (fun f w'=>Fr.le fr f∧W w') Φ) fr w)(h2:∀w',W w'→CW P y n Φ fr w'):CW P (.seq x y) n Φ fr w:=
 CW.bK (X:=Unit) (fun _=>fr) (fun _ w'=>W w') (CW.mono h1 fun e f w' hp=>by
   cases e with
   |normal=>exact⟨(),hp.1,hp.2⟩
   |_=>exact hp) (fun _ w' hw=>h2 w' hw)
theorem CW.uo{x y:Code}(W:World→World→Prop)(T:Nat)(Q:Prop)(h1:CW P x n (mL (fun f w'=>(∃b,f.get T=some (.bool b)∧(b=true↔Q))∧W w w'∧Fr.le fr f) Φ) fr w)
  (h2:∀w',W w w'→CW P y n Φ ((T,.bool (@decide Q (Classical.propDecidable Q)))::fr) w'):CW P (.seq x y) n Φ fr w:=
 CW.bK (X:=Unit) (fun _=>(T,.bool (@decide Q (Classical.propDecidable Q)))::fr) (fun _ w'=>W w w')
  (CW.mono h1 fun e f w' hp=>by
   cases e with
   |normal=>
    obtain⟨⟨b,hb,hq⟩,hw,hl⟩:=hp;have hbq:b= @decide Q (Classical.propDecidable Q):=by
     by_cases h:Q
     ·rw [hq.2 h,@decide_eq_true Q (Classical.propDecidable Q) h]
     ·rw [@decide_eq_false Q (Classical.propDecidable Q) h];cases b with
      |true=>exact absurd (hq.1 rfl) h
      |false=>rfl
    exact⟨(),Fr.le.cons (by rw [hb,hbq]) hl,hw⟩
   |_=>exact hp)
  (fun u w' hw=>h2 w' hw)
theorem CW.bS{x y:Code}(T:Nat)(Q:Prop)(h1:CW P x n (mL (fun f w'=>(∃b,f.get T=some (.bool b)∧(b=true↔Q))∧w'=w∧Fr.le fr f) Φ) fr w)
  (h2:CW P y n Φ ((T,.bool (@decide Q (Classical.propDecidable Q)))::fr) w):CW P (.seq x y) n Φ fr w:=
 CW.uo (fun w w'=>w'=w) T Q h1 (fun w' hw=>by subst hw;exact h2)
theorem CW.loop{c:Code}{X:Type}(g:X→Fr)(W:X→World→Prop)(μ:X→Nat)(x0:X)(h0:Fr.le (g x0) fr)(hw0:W x0 w)
  (round:∀x w,W x w→CW P c n (mL (fun f w'=>∃y,μ y<μ x∧Fr.le (g y) f∧W y w') Φ) (g x) w):CW P (.loop c) n Φ fr w:=by
 intro a ha b k cs hro hb hr;have key:∀m x a w,μ x=m→ju n a (g x)→W x w→
   ∃e a' w',lift n Φ e a' w'∧ArrivesIn (Machine.fenced P (FX n.2.2)) P (lone (b.atR a (.code c:: .inLoop c::k)) cs w) b k cs e a' w':=by
  intro m;induction m using Nat.strongRecOn with
  |_ m ih=>
   intro x a w hk hre hw;obtain⟨e,a₁,w₁,⟨f,hf,hp⟩,harr⟩:=round x w hw a hre b (.inLoop c::k) cs hro hb hr;cases e with
   |normal=>
    obtain⟨y,hlt,hl,hwy⟩:=hp;obtain⟨e₂,a₂,w₂,hq₂,harr₂⟩:=ih (μ y) (hk▸hlt) y a₁ w₁ rfl (hf.weaken hl) hwy;exact⟨e₂,a₂,w₂,hq₂,.of_steps (StepsIn.trans harr (.one (fenced_calm hb hr rfl) stepR_inLoop)) harr₂⟩
   |exit id=>exact⟨_,a₁,w₁,⟨f,hf,hp⟩,.pass (x:= .inLoop c) rfl (fun _ _=>.inl aL) harr⟩
   |goto l=>exact⟨_,a₁,w₁,⟨f,hf,hp⟩,.pass (x:= .inLoop c) rfl (fun _ _=>.inl aL) harr⟩
   |ret=>exact⟨_,a₁,w₁,⟨f,hf,hp⟩,.pass (x:= .inLoop c) rfl (fun _ _=>.inl aL) harr⟩
   |panic ch=>exact⟨_,a₁,w₁,⟨f,hf,hp⟩,.pass (x:= .inLoop c) rfl (fun _ _=>.inl aL) harr⟩
   |outgrown=>exact⟨_,a₁,w₁,⟨f,hf,hp⟩,.pass (x:= .inLoop c) rfl (fun _ _=>.inl aL) harr⟩
 obtain⟨e,a',w',hq,harr⟩:=key _ x0 a w rfl (ha.weaken h0) hw0;exact⟨e,a',w',hq,.of_steps (.one (fenced_calm hb hr rfl) stepR_loop) harr⟩
theorem CW.region{id:Nat}{l:List Oper}(h:WL P l.toArray n Φ l fr w)(hR:tR n l Φ:=by first|exact .inl rfl|exact .inr ⟨rfl,fun _ _ h=>h⟩):CW P (.region id l.toArray false) n Φ fr w:=fun a ha=>Cx hR (h a ha)
theorem WL.nil{ops:Array Oper}(h:Φ .normal fr w):WL P ops n Φ [] fr w:=fun _ ha=>wpList_nil ⟨fr,ha,h⟩
def Yw(P:Program)(n:NN)(fr:Fr)(o:Op)(ty:TypeId)(w:World)(v:Value)(w':World):Prop:=
 ∀a (o':Oper),o'.op=o→o'.type=ty→ju n a fr→(execOp a.eval o').run P w= .ok (.value v) w'
theorem WL.val{ops:Array Oper}{rest:List Oper}{d:Nat}{o:Op}{ty:TypeId}{pos:String}{aft:Array Edge}{v:Value}{w':World}
  (hy:Yw P n fr o ty w v w') (hd:d<n.1) (h:WL P ops n Φ rest ((d,v)::fr) w'):WL P ops n Φ (⟨some d,o,ty,pos,aft,none⟩::rest) fr w:=fun a ha=>
 wpList_plain rfl fun K hK=>by
  unfold Oper.wp;rw [hy a _ rfl rfl ha];exact hK _ _ (h _ (ha.put hd v))
theorem dL{ops:Array Oper}{a:Act}{j d:Nat}{b:Bool}(ha:ju n a fr)(hj:(ops[j]?).bind (·.dst)=some d)(hg:fr.get d=some (.bool b)):yielded ops a.tmps j=some b:=by
 have h1:=ha.get d _ hg;have h2:a.tmps.getD d undef= .bool b:=by simp [h1]
 cases ho:ops[j]? with
 |none=>simp [ho]at hj
 |some oj=>
  have hd:oj.dst=some d:=by simpa [ho]using hj
  simp [yielded,ho,hd,h1]
theorem nH{ops:Array Oper}{a:Act}{j d:Nat}(ha:ju n a fr)(hj:(ops[j]?).bind (·.dst)=some d)(hg:fr.get d=some undef):yielded ops a.tmps j=none:=by
 have h1:=ha.get d _ hg;cases ho:ops[j]? with
 |none=>simp [ho]at hj
 |some oj=>
  have hd:oj.dst=some d:=by simpa [ho]using hj
  simp [yielded,ho,hd,h1,undef]
theorem WL.oU{ops:Array Oper}{rest:List Oper}{d j dj:Nat}{b:Bool}{o:Op}{ty:TypeId}{pos:String}{aft:Array Edge}{v:Value}{w':World}
  (hj:(ops[j]?).bind (·.dst)=some dj) (hg:fr.get dj=some (.bool b))
  (hy:Yw P n fr o ty w v w') (hd:d<n.1) (h:WL P ops n Φ rest ((d,v)::fr) w'):WL P ops n Φ (⟨some d,o,ty,pos,aft,some (j,b)⟩::rest) fr w:=fun a ha=>
 wpList_step fun K hK=>by
  rw [if_pos (by simp [Region.wanted,dL ha hj hg])];unfold Oper.wp;rw [hy a _ rfl rfl ha];exact hK _ _ (h _ (ha.put hd v))
theorem WL.nP{ops:Array Oper}{rest:List Oper}{d j dj:Nat}{b:Bool}{o:Op}{ty:TypeId}{pos:String}{aft:Array Edge}
  (hj:(ops[j]?).bind (·.dst)=some dj) (hg:fr.get dj=some (.bool (!b)))
  (hd:d<n.1) (h:WL P ops n Φ rest ((d,undef)::fr) w):WL P ops n Φ (⟨some d,o,ty,pos,aft,some (j,b)⟩::rest) fr w:=fun a ha=>
 wpList_step fun K hK=>by
  rw [if_neg (by simp [Region.wanted,dL ha hj hg])];exact hK _ _ (h _ (ha.put hd undef))
theorem WL.bD{ops:Array Oper}{rest:List Oper}{d j dj:Nat}{b:Bool}{o:Op}{ty:TypeId}{pos:String}{aft:Array Edge}
  (hj:(ops[j]?).bind (·.dst)=some dj) (hg:fr.get dj=some undef)
  (hd:d<n.1) (h:WL P ops n Φ rest ((d,undef)::fr) w):WL P ops n Φ (⟨some d,o,ty,pos,aft,some (j,b)⟩::rest) fr w:=fun a ha=>
 wpList_step fun K hK=>by
  rw [if_neg (by simp [Region.wanted,nH ha hj hg])];exact hK _ _ (h _ (ha.put hd undef))
theorem WL.cases{ops:Array Oper}{l:List Oper}{d:Nat}{c:Bool}(hg:fr.get d=some (.bool c))
  (ht:c=true→WL P ops n Φ l ((d,.bool true)::fr) w) (hf:c=false→WL P ops n Φ l ((d,.bool false)::fr) w):WL P ops n Φ l fr w:=by
 intro a ha;cases c with
 |true=>exact ht rfl a (ha.weaken (Fr.le.cons hg Fr.le.refl))
 |false=>exact hf rfl a (ha.weaken (Fr.le.cons hg Fr.le.refl))
theorem WL.sU{ops:Array Oper}{l:List Oper}{d:Nat}{p:Prop}{inst:Decidable p}(hg:fr.get d=some (.bool (@decide p inst)))
  (ht:p→WL P ops n Φ l ((d,.bool true)::fr) w) (hf:¬p→WL P ops n Φ l ((d,.bool false)::fr) w):WL P ops n Φ l fr w:=
 WL.cases hg (fun h=>ht (@of_decide_eq_true p inst h)) (fun h=>hf (@of_decide_eq_false p inst h))
theorem WL.rG{ops:Array Oper}{l:List Oper}{d:Nat}{p:Prop}{inst:Decidable p}(hg:fr.get d=some (.bool (!@decide p inst)))
  (ht:¬p→WL P ops n Φ l ((d,.bool true)::fr) w) (hf:p→WL P ops n Φ l ((d,.bool false)::fr) w):WL P ops n Φ l fr w:=
 WL.cases hg (fun h=>ht (@of_decide_eq_false p inst (by simpa using h))) (fun h=>hf (@of_decide_eq_true p inst (by simpa using h)))
def cB(R:Value→World→Prop):Ending→World→Prop
 | .returned v,w=>R v w
 |_,_=>False
def Hk(R:Value→World→Prop)(S:List PanicEntry→World→Prop):Ending→World→Prop
 | .returned v,w=>R v w
 | .panicked ch,w=>S ch w
 | .outgrown,_=>False
theorem dT{f:FuncId}{fn:Func}(hf:P.funcs[f]? =some fn)(hb:fn.body.isNone=false)(hn:(fn.name== "runtime.NumGoroutine")=false)(args:Array Value)(w:World):
  (callFunc f args).run P w= .ok (.enter f args) w:=by
 have hn':¬fn.name= "runtime.NumGoroutine" :=by simpa using hn
 have hb':¬fn.body=none:=by intro e;simp [e]at hb
 simp [callFunc,hf,hn',hb']
theorem WL.call{ops:Array Oper}{rest:List Oper}{dst:Option Nat}{f:FuncId}{args:List Operand}{tys:Array TypeId}{ty:TypeId}{pos:String}{aft:Array Edge}{vs:List Value}{fn:Func}
  {R:Value→World→Prop}
  (hf:P.funcs[f]? =some fn) (hb:fn.body.isNone=false) (hn:(fn.name== "runtime.NumGoroutine")=false)
  (he:pY fr args=some vs) (hC:Calls P f vs.toArray w (cB R)) (hd:∀d,dst=some d→d<n.1)
  (h:∀v w',R v w'→WL P ops n Φ rest (match dst with|some d=>(d,v)::fr|none=>fr) w'):
  WL P ops n Φ (⟨dst,.call {callee:= .value (.func f),args:=args.toArray,argTypes:=tys},ty,pos,aft,none⟩::rest) fr w:=fun a ha=>
 wpList_plain rfl fun K hK=>by
  have hrun:(execOp a.eval ⟨dst,.call {callee:= .value (.func f),args:=args.toArray,argTypes:=tys},ty,pos,aft,none⟩).run P w= .ok (.enter f vs.toArray) w:=by
   have:=ha.pY he;simp [execOp,resolve,invoke,Deferred.ofValue,Act.eval,this,dT hf hb hn]
  unfold Oper.wp;rw [hrun];refine hC.mono fun e w' hr=>?_;cases e with
  |returned v=>
   refine hK _ _ (h v w' hr _ ?_);cases dst with
   |none=>exact ha
   |some d=>exact ha.put (hd d rfl) v
  |panicked ch=>exact hr.elim
  |outgrown=>exact hr.elim
theorem WL.lz{ops:Array Oper}{rest:List Oper}{d:Nat}{f:FuncId}{args:List Operand}{tys:Array TypeId}{ty:TypeId}{pos:String}{aft:Array Edge}{vs:List Value}{fn:Func}
  {R:Value→World→Prop} {j dj:Nat} {b:Bool}
  (hj:(ops[j]?).bind (·.dst)=some dj) (hg:fr.get dj=some (.bool b))
  (hf:P.funcs[f]? =some fn) (hb:fn.body.isNone=false) (hn:(fn.name== "runtime.NumGoroutine")=false)
  (he:pY fr args=some vs) (hC:Calls P f vs.toArray w (cB R)) (hd:d<n.1)
  (h:∀v w',R v w'→WL P ops n Φ rest ((d,v)::fr) w'):
  WL P ops n Φ (⟨some d,.call {callee:= .value (.func f),args:=args.toArray,argTypes:=tys},ty,pos,aft,some (j,b)⟩::rest) fr w:=fun a ha=>
 wpList_step fun K hK=>by
  have hrun:(execOp a.eval ⟨some d,.call {callee:= .value (.func f),args:=args.toArray,argTypes:=tys},ty,pos,aft,some (j,b)⟩).run P w= .ok (.enter f vs.toArray) w:=by
   have:=ha.pY he;simp [execOp,resolve,invoke,Deferred.ofValue,Act.eval,this,dT hf hb hn]
  rw [if_pos (by simp [Region.wanted,dL ha hj hg])];unfold Oper.wp;rw [hrun];refine hC.mono fun e w' hr=>?_;cases e with
  |returned v=>exact hK _ _ (h v w' hr _ (ha.put hd v))
  |panicked ch=>exact hr.elim
  |outgrown=>exact hr.elim
theorem l7{P:Program}{ops:Array Oper}{C:World→Prop}{Q Q':Act→Prop}(hq:∀a,Q a→Q' a):∀{l:List Oper} {a:Act},wpQuiet P ops C Q l a→wpQuiet P ops C Q' l a
 | [],a,h=>hq a h
 |o::rest,a,h=>by
  unfold wpQuiet at h⊢;split
  ·rename_i hw;rw [if_pos hw]at h;exact Oper.quiet_mono (fun a' h'=>l7 hq h') h
  ·rename_i hw;rw [if_neg hw]at h;exact l7 hq h
def QL(P:Program)(ops:Array Oper)(C:World→Prop)(n:NN)(Ψ:Fr→Prop)(l:List Oper)(fr:Fr):Prop:=
 ∀a,ju n a fr→wpQuiet P ops C (fun a'=>∃f,ju n a' f∧Ψ f) l a
section quiet
variable {C:World→Prop} {ops:Array Oper} {rest:List Oper} {Ψ:Fr→Prop}
theorem QL.nil(h:Ψ fr):QL P ops C n Ψ [] fr:=fun _ ha=>⟨fr,ha,h⟩
theorem QL.val{d:Nat}{o:Op}{ty:TypeId}{pos:String}{aft:Array Edge}{v:Value}
  (hy:∀w,C w→Yw P n fr o ty w v w) (hd:d<n.1) (h:QL P ops C n Ψ rest ((d,v)::fr)):QL P ops C n Ψ (⟨some d,o,ty,pos,aft,none⟩::rest) fr:=fun a ha=>
 wpQuiet_step fun K hK=>by
  rw [if_pos (by simp [Region.wanted])];refine⟨v,fun w hw=>?_,hK _ (h _ (ha.put hd v))⟩;unfold Oper.quietAt;rw [hy w hw a _ rfl rfl ha];exact⟨rfl,rfl⟩
theorem QL.oU{d j dj:Nat}{b:Bool}{o:Op}{ty:TypeId}{pos:String}{aft:Array Edge}{v:Value}
  (hj:(ops[j]?).bind (·.dst)=some dj) (hg:fr.get dj=some (.bool b))
  (hy:∀w,C w→Yw P n fr o ty w v w) (hd:d<n.1) (h:QL P ops C n Ψ rest ((d,v)::fr)):QL P ops C n Ψ (⟨some d,o,ty,pos,aft,some (j,b)⟩::rest) fr:=fun a ha=>
 wpQuiet_step fun K hK=>by
  rw [if_pos (by simp [Region.wanted,dL ha hj hg])];refine⟨v,fun w hw=>?_,hK _ (h _ (ha.put hd v))⟩;unfold Oper.quietAt;rw [hy w hw a _ rfl rfl ha];exact⟨rfl,rfl⟩
theorem QL.nP{d j dj:Nat}{b:Bool}{o:Op}{ty:TypeId}{pos:String}{aft:Array Edge}
  (hj:(ops[j]?).bind (·.dst)=some dj) (hg:fr.get dj=some (.bool (!b)))
  (hd:d<n.1) (h:QL P ops C n Ψ rest ((d,undef)::fr)):QL P ops C n Ψ (⟨some d,o,ty,pos,aft,some (j,b)⟩::rest) fr:=fun a ha=>
 wpQuiet_step fun K hK=>by
  rw [if_neg (by simp [Region.wanted,dL ha hj hg])];exact hK _ (h _ (ha.put hd undef))
theorem QL.bD{d j dj:Nat}{b:Bool}{o:Op}{ty:TypeId}{pos:String}{aft:Array Edge}
  (hj:(ops[j]?).bind (·.dst)=some dj) (hg:fr.get dj=some undef)
  (hd:d<n.1) (h:QL P ops C n Ψ rest ((d,undef)::fr)):QL P ops C n Ψ (⟨some d,o,ty,pos,aft,some (j,b)⟩::rest) fr:=fun a ha=>
 wpQuiet_step fun K hK=>by
  rw [if_neg (by simp [Region.wanted,nH ha hj hg])];exact hK _ (h _ (ha.put hd undef))
theorem QL.cases{l:List Oper}{d:Nat}{c:Bool}(hg:fr.get d=some (.bool c))
  (ht:c=true→QL P ops C n Ψ l ((d,.bool true)::fr)) (hf:c=false→QL P ops C n Ψ l ((d,.bool false)::fr)):QL P ops C n Ψ l fr:=by
 intro a ha;cases c with
 |true=>exact ht rfl a (ha.weaken (Fr.le.cons hg Fr.le.refl))
 |false=>exact hf rfl a (ha.weaken (Fr.le.cons hg Fr.le.refl))
theorem QL.sU{l:List Oper}{d:Nat}{p:Prop}{inst:Decidable p}(hg:fr.get d=some (.bool (@decide p inst)))
  (ht:p→QL P ops C n Ψ l ((d,.bool true)::fr)) (hf:¬p→QL P ops C n Ψ l ((d,.bool false)::fr)):QL P ops C n Ψ l fr:=
 QL.cases hg (fun h=>ht (@of_decide_eq_true p inst h)) (fun h=>hf (@of_decide_eq_false p inst h))
theorem QL.rG{l:List Oper}{d:Nat}{p:Prop}{inst:Decidable p}(hg:fr.get d=some (.bool (!@decide p inst)))
  (ht:¬p→QL P ops C n Ψ l ((d,.bool true)::fr)) (hf:p→QL P ops C n Ψ l ((d,.bool false)::fr)):QL P ops C n Ψ l fr:=
 QL.cases hg (fun h=>ht (@of_decide_eq_false p inst (by simpa using h))) (fun h=>hf (@of_decide_eq_true p inst (by simpa using h)))
theorem QL.call{dst:Option Nat}{f:FuncId}{args:List Operand}{tys:Array TypeId}{ty:TypeId}{pos:String}{aft:Array Edge}{vs:List Value}{fn:Func}{v:Value}
  (hf:P.funcs[f]? =some fn) (hb:fn.body.isNone=false) (hn:(fn.name== "runtime.NumGoroutine")=false)
  (he:pY fr args=some vs) (hC:∀w,C w→Calls P f vs.toArray w (cB fun v' w'=>v'=v∧C w')) (hd:∀d,dst=some d→d<n.1)
  (h:QL P ops C n Ψ rest (match dst with|some d=>(d,v)::fr|none=>fr)):
  QL P ops C n Ψ (⟨dst,.call {callee:= .value (.func f),args:=args.toArray,argTypes:=tys},ty,pos,aft,none⟩::rest) fr:=fun a ha=>
 wpQuiet_step fun K hK=>by
  rw [if_pos (by simp [Region.wanted])];refine⟨v,fun w hw=>?_,hK _ (h _ ?_)⟩
  ·have hrun:(execOp a.eval ⟨dst,.call {callee:= .value (.func f),args:=args.toArray,argTypes:=tys},ty,pos,aft,none⟩).run P w= .ok (.enter f vs.toArray) w:=by
    have:=ha.pY he;simp [execOp,resolve,invoke,Deferred.ofValue,Act.eval,this,dT hf hb hn]
   unfold Oper.quietAt;rw [hrun];refine⟨rfl,(hC w hw).mono fun e w' hr=>?_⟩;cases e with
   |returned u=>exact⟨by rw [hr.1],hr.2⟩
   |panicked ch=>exact hr.elim
   |outgrown=>exact hr.elim
  ·cases dst with
   |none=>exact ha
   |some d=>exact ha.put (hd d rfl) v
theorem QL.lz{d:Nat}{f:FuncId}{args:List Operand}{tys:Array TypeId}{ty:TypeId}{pos:String}{aft:Array Edge}{vs:List Value}{fn:Func}{v:Value}{j dj:Nat}{b:Bool}
  (hj:(ops[j]?).bind (·.dst)=some dj) (hg:fr.get dj=some (.bool b))
  (hf:P.funcs[f]? =some fn) (hb:fn.body.isNone=false) (hn:(fn.name== "runtime.NumGoroutine")=false)
  (he:pY fr args=some vs) (hC:∀w,C w→Calls P f vs.toArray w (cB fun v' w'=>v'=v∧C w')) (hd:d<n.1)
  (h:QL P ops C n Ψ rest ((d,v)::fr)):
  QL P ops C n Ψ (⟨some d,.call {callee:= .value (.func f),args:=args.toArray,argTypes:=tys},ty,pos,aft,some (j,b)⟩::rest) fr:=fun a ha=>
 wpQuiet_step fun K hK=>by
  rw [if_pos (by simp [Region.wanted,dL ha hj hg])];refine⟨v,fun w hw=>?_,hK _ (h _ (ha.put hd v))⟩;have hrun:(execOp a.eval ⟨some d,.call {callee:= .value (.func f),args:=args.toArray,argTypes:=tys},ty,pos,aft,some (j,b)⟩).run P w= .ok (.enter f vs.toArray) w:=by
   have:=ha.pY he;simp [execOp,resolve,invoke,Deferred.ofValue,Act.eval,this,dT hf hb hn]
  unfold Oper.quietAt;rw [hrun];refine⟨rfl,(hC w hw).mono fun e w' hr=>?_⟩;cases e with
  |returned u=>exact⟨by rw [hr.1],hr.2⟩
  |panicked ch=>exact hr.elim
  |outgrown=>exact hr.elim
end quiet
theorem CW.quiet{id:Nat}{l:List Oper}(C:World→Prop)(hm:P.follows .mixedOrders=true)(hB:Region.lexB .any l.toArray=true)(hC:C w.drew)
  (h:QL P l.toArray C n (fun f=>∀w',C w'→Φ .normal f w') l fr) (hR:tR n l Φ:=by first|exact .inl rfl|exact .inr ⟨rfl,fun _ _ h=>h⟩):CW P (.region id l.toArray true) n Φ fr w:=fun a ha=>by
 refine nW hR hm (wpAny_of_quiet (C:=C) (Q:=fun a'=>∀w',C w'→lift n Φ .normal a' w') (fun _ w' hw' h=>h w' hw') _ _ _ _ hC ?_);simp only [Region.lexB,Bool.and_eq_true]at hB;have h1:=h a ha;have h2:wpQuiet P l.toArray C (fun a'=>∀w',C w'→lift n Φ .normal a' w') l a:=by
  refine l7 ?_ h1;rintro a' ⟨f,hf,hp⟩ w' hw';exact⟨f,hf,hp w' hw'⟩
 have:=wpAnyQ_lex (C:=C) (md:= .any) hB.1 l 0 (Array.replicate l.toArray.size false) a aL (by simpa using hB.2) h2;simpa using this
def zZ(fr:Fr):List Nat→Option Value
 | []=>some (.tuple #[])
 | [t]=>fr.get t
 | [t,u]=>match fr.get t,fr.get u with
  |some a,some b=>some (.tuple #[a,b])
  |_,_=>none
 | [t,u,x]=>match fr.get t,fr.get u,fr.get x with
  |some a,some b,some c=>some (.tuple #[a,b,c])
  |_,_,_=>none
 |_=>none
@[reducible] def JY(ts:List Nat)(R:Value→World→Prop):Exit→Fr→World→Prop
 | .normal,fr,w=>∃v,zZ fr ts=some v∧R v w
 | .ret,fr,w=>∃v,zZ fr ts=some v∧R v w
 |_,_,_=>False
theorem mK{fn:Func}{a:Act}{ts:List Nat}{v:Value}(ha:ju n a fr)(hr:fn.results=(ts.map ResultVar.tmp).toArray)(hv:zZ fr ts=some v)(w:World):
  (results fn a.tmps).run P w= .ok v w:=by
 match ts,hv with
 | [],hv=>
  simp only [zZ,Option.some.injEq]at hv;subst hv;rw [results_none (by simpa using hr)]
 | [t],hv=>
  rw [results_tmp (by simpa using hr)];have:=ha.get t v hv;simp [this]
 | [t,u],hv=>
  simp only [zZ]at hv;split at hv
  ·rename_i x y h1 h2;simp only [Option.some.injEq]at hv;subst hv;have e1:=ha.get t x h1;have e2:=ha.get u y h2;simp [results,hr,e1,e2]
  ·cases hv
 | [t,u,z],hv=>
  simp only [zZ]at hv;split at hv
  ·rename_i x y q h1 h2 h3;simp only [Option.some.injEq]at hv;subst hv;have e1:=ha.get t x h1;have e2:=ha.get u y h2;have e3:=ha.get z q h3;simp [results,hr,e1,e2,e3]
  ·cases hv
theorem ar{f:FuncId}{fn:Func}{c:Code}{args:List Value}{R:Value→World→Prop}(m:Nat)(ts:List Nat)(fr0:Fr)
  (hf:P.funcs[f]? =some fn) (hb:fn.body=some c) (hm:fn.ntmps=m) (hr:fn.results=(ts.map ResultVar.tmp).toArray)
  (hsz:args.length≤m) (hargs:∀t v,fr0.get t=some v→args[t]? =some v)
  (h:CW P c (m,[],none) (JY ts R) fr0 w):Calls P f args.toArray w (cB R):=by
 refine calls_of_wp hf hb ?_;have hrep:ju (m,[],none) {tmps:=args.toArray++Array.replicate (fn.ntmps-args.toArray.size) undef,defers:=[]} fr0:=by
  refine⟨by simp [hm];omega,rfl,fun t v hv=>?_⟩;have h1:=hargs t v hv;have hlt:t<args.length:=(List.getElem?_eq_some_iff.1 h1).1;simpa [Array.getElem?_append,hlt]using(List.getElem?_eq_some_iff.1 h1).2
 refine wp_mono ((CW.plain rfl).1 h _ hrep) ?_;rintro e a' w' ⟨fr',hf',hp⟩;cases e with
 |normal=>obtain⟨v,hv,hR⟩:=hp;exact⟨hf'.defers,v,mK hf' hr hv w',hR⟩
 |ret=>obtain⟨v,hv,hR⟩:=hp;exact⟨hf'.defers,v,mK hf' hr hv w',hR⟩
 |exit id=>exact hp
 |goto l=>exact hp
 |panic ch=>exact hp.elim
 |outgrown=>exact hp.elim
theorem du{a:Value}:∀t v,Fr.get [(0,a)] t=some v→[a][t]? =some v:=by
 intro t v h;match t,h with
 |0,h=>exact h
 |t+1,h=>cases h
theorem ve:∀t v,Fr.get [] t=some v→([]:List Value)[t]? =some v:=by intro t v h;cases h
theorem cz{a b:Value}:∀t v,Fr.get [(0,a),(1,b)] t=some v→[a,b][t]? =some v:=by
 intro t v h;match t,h with
 |0,h=>exact h
 |1,h=>exact h
 |t+2,h=>cases h
theorem iI{a b c:Value}:∀t v,Fr.get [(0,a),(1,b),(2,c)] t=some v→[a,b,c][t]? =some v:=by
 intro t v h;match t,h with
 |0,h=>exact h
 |1,h=>exact h
 |2,h=>exact h
 |t+3,h=>cases h
theorem G7{a b c d:Value}:∀t v,Fr.get [(0,a),(1,b),(2,c),(3,d)] t=some v→[a,b,c,d][t]? =some v:=by
 intro t v h;match t,h with
 |0,h=>exact h
 |1,h=>exact h
 |2,h=>exact h
 |3,h=>exact h
 |t+4,h=>cases h
end rules
end Go.Fw
namespace Go.Fw
open Go.RowKit
structure aE(S:Nat→Prop)(w w':World):Prop where
 os:w'.os=w.os
 tape:w'.tape=w.tape
 output:w'.output=w.output
 size:w.heap.size≤w'.heap.size
 block:∀k,k<w.heap.size→¬S k→w'.heap[k]? =w.heap[k]?
 drawn:w.drawn≤w'.drawn
abbrev Ext(w w':World):Prop:=aE (fun _=>False) w w'
section worlds
variable {S T:Nat→Prop} {w w1 w2:World}
theorem aE.refl:aE S w w:=⟨rfl,rfl,rfl,Nat.le_refl _,fun _ _ _=>rfl,Nat.le_refl _⟩
theorem aE.trans(h:aE S w w1)(k:aE T w1 w2)(hT:∀i,i<w.heap.size→T i→S i):aE S w w2:=
 ⟨k.os.trans h.os,k.tape.trans h.tape,k.output.trans h.output,Nat.le_trans h.size k.size,
  fun i hi hn=>(k.block i (Nat.lt_of_lt_of_le hi h.size) (fun ht=>hn (hT i hi ht))).trans (h.block i hi hn),Nat.le_trans h.drawn k.drawn⟩
theorem aE.ae(h:aE S w w1)(k:Ext w1 w2):aE S w w2:=h.trans k (fun _ _ f=>f.elim)
theorem aE.mono(h:aE S w w1)(hs:∀i,i<w.heap.size→S i→T i):aE T w w1:=⟨h.os,h.tape,h.output,h.size,fun k hk hn=>h.block k hk (fun hh=>hn (hs k hk hh)),h.drawn⟩
theorem aE.sD(h:aE S w w1)(hs:∀i,i<w.heap.size→¬S i):Ext w w1:=h.mono fun i hi hh=>hs i hi hh
theorem Ext.aA(h:Ext w w1):aE S w w1:=h.mono fun _ _ f=>f.elim
theorem aE.drew:aE S w w.drew:=⟨rfl,rfl,rfl,Nat.le_refl _,fun _ _ _=>rfl,Nat.le_succ _⟩
theorem aE.alloc(o:Obj):aE S w (w.alloc o):=⟨rfl,rfl,rfl,by simp,fun k hk _=>Below.heap_alloc w o k hk,Nat.le_refl _⟩
theorem Ext.below(h:Ext w w1):Below w.heap.size w w1:=⟨h.os,h.tape,h.output,h.size,fun k hk=>h.block k hk (fun f=>f)⟩
theorem aE.cell(h:aE S w w1){p:Addr}{v:Value}(hc:w.cell? p=some v)(hs:¬S p.block):w1.cell? p=some v:=
 (World.cell?_of_block (h.block p.block (World.block_lt_of_cell? w p hc) hs)).trans hc
end worlds
theorem CW.cP{P:Program}{n:NN}{Φ:Exit→Fr→World→Prop}{fr:Fr}{w:World}{x y:Code}(T:Nat)(Q:Prop)
  (h1:CW P x n (mL (fun f w'=>(∃b,f.get T=some (.bool b)∧(b=true↔Q))∧Ext w w'∧Fr.le fr f) Φ) fr w)
  (h2:∀w',Ext w w'→CW P y n Φ ((T,.bool (@decide Q (Classical.propDecidable Q)))::fr) w'):CW P (.seq x y) n Φ fr w:=CW.uo Ext T Q h1 h2
theorem HE{P:Program}{f:FuncId}{args:Array Value}{w:World}{v:Value}(h:Calls P f args w fun e w'=>e= .returned v∧w'=w):Calls P f args w (cB fun v' w'=>v'=v∧Ext w w'):=
 h.mono fun e w' ⟨he,hw⟩=>by subst he;subst hw;exact⟨rfl,aE.refl⟩
def Mem(w:World)(a:Addr)(cs:List Value):Prop:=∀j v,cs[j]? =some v→w.cell? (a.add j)=some v
def aK(w:World)(g:Nat)(t:TypeId)(cs:List Value):Prop:=w.heap[g]? =some (.cells cs.toArray t (0,0))
theorem block_add(a:Addr)(n:Nat):(a.add n).block=a.block:=by unfold Addr.add;split<;>rfl
theorem add_add(a:Addr)(i j:Nat):(a.add i).add j=a.add (i+j):=by
 unfold Addr.add;by_cases hi:i=0<;>by_cases hj:j=0<;>simp [hi,hj,Nat.add_assoc]
section mem
variable {S:Nat→Prop} {w w1:World} {a:Addr} {cs:List Value}
theorem Mem.nil:Mem w a []:=fun j v h=>by simp at h
theorem Mem.aA(h:Mem w a cs)(hc:aE S w w1)(hs:¬S a.block):Mem w1 a cs:=fun j v hv=>hc.cell (h j v hv) (by rw [block_add];exact hs)
theorem Mem.ext(h:Mem w a cs)(hc:Ext w w1):Mem w1 a cs:=h.aA hc (fun f=>f)
theorem Mem.sub(k:Nat){l:List Value}(h:Mem w a cs)(hl:∀j v,l[j]? =some v→cs[k+j]? =some v):Mem w (a.add k) l:=fun j v hv=>by
 rw [add_add];exact h _ v (hl j v hv)
theorem Mem.cell(h:Mem w a cs)(k:Nat){v:Value}(hv:cs[k]? =some v):w.cell? (a.add k)=some v:=h k v hv
theorem Mem.cell0{v:Value}(h:Mem w a (v::cs)):w.cell? a=some v:=by
 have:=h 0 v rfl;simpa [Addr.add]using this
theorem Mem.lt(h:Mem w a cs)(hne:cs≠[]):a.block<w.heap.size:=by
 cases cs with
 |nil=>exact absurd rfl hne
 |cons v r=>exact World.block_lt_of_cell? w a h.cell0
theorem aK.mem{g:Nat}{t:TypeId}(h:aK w g t cs):Mem w ⟨g,0,none⟩ cs:=fun j v hv=>by
 have e:(⟨g,0,none⟩:Addr).add j=⟨g,j,none⟩:=by unfold Addr.add;split<;>simp_all
 rw [e,cell_of_row w g j _ t _ h];simpa using hv
theorem aK.lt{g:Nat}{t:TypeId}(h:aK w g t cs):g<w.heap.size:=(Array.getElem?_eq_some_iff.1 h).1
theorem aK.aA{g:Nat}{t:TypeId}(h:aK w g t cs)(hc:aE S w w1)(hs:¬S g):aK w1 g t cs:=(hc.block g h.lt hs).trans h
theorem aK.ext{g:Nat}{t:TypeId}(h:aK w g t cs)(hc:Ext w w1):aK w1 g t cs:=h.aA hc (fun f=>f)
theorem aK.new(w:World)(t:TypeId)(cs:List Value):aK (w.alloc (.cells cs.toArray t)) w.heap.size t cs:=heap_alloc_new w _
end mem
section Y
variable {P:Program} {n:NN} {fr:Fr} {w:World} {ty:TypeId}
abbrev eE(x:Int):Prop:= -9223372036854775808≤x∧x≤9223372036854775807
theorem Y.move{x:Operand}{v:Value}(hx:ev fr x=some v):Yw P n fr (.move x) ty w v w:=fun a o' ho _ ha=>by
 simp [execOp,ho,ha.ev hx,Sem.run]
theorem Y.assign{x:Operand}{v:Value}(hx:ev fr x=some v):Yw P n fr (.assign x) ty w v w:=fun a o' ho _ ha=>by
 simp [execOp,ho,ha.ev hx,Sem.run]
theorem Y.pick{c x y:Operand}{b:Bool}{v:Value}(hc:ev fr c=some (.bool b))(hx:ev fr (cond b x y)=some v):Yw P n fr (.pick c x y) ty w v w:=fun a o' ho _ ha=>by
 have h1:=ha.ev hc;have h2:=ha.ev hx;cases b<;>simp [execOp,ho,h1,asBool]<;>simpa using h2
theorem Y.aM{x:Operand}{s:ByteArray}{t:TypeId}(hT:P.underlying t=some .string)(hx:ev fr x=some (.string s)):
  Yw P n fr (.call {callee:= .builtin .len,args:=#[x],argTypes:=#[t]}) ty w (.int .i64 (s.size:Int)) w:=fun a o' ho _ ha=>by
 simp [execOp,ho,resolve,invoke,builtin,ha.ev hx,Builtin.len_,run_underlying hT,goInt]
theorem Y.aq{x:Operand}{A:Option Addr}{m c:Nat}{t e:TypeId}(hT:P.underlying t=some (.slice e))(hx:ev fr x=some (.slice A m c)):
  Yw P n fr (.call {callee:= .builtin .len,args:=#[x],argTypes:=#[t]}) ty w (.int .i64 (m:Int)) w:=fun a o' ho _ ha=>by
 simp [execOp,ho,resolve,invoke,builtin,ha.ev hx,Builtin.len_,run_underlying hT,goInt]
theorem Y.bin{op:BinOp}{x y:Operand}{vx vy v:Value}{t t':TypeId}(hx:ev fr x=some vx)(hy:ev fr y=some vy)(hg:(eqGuard op t x y vx vy).run P w= .ok () w)
  (hr:(binOp op t vx vy).run P w= .ok v w):Yw P n fr (.binOp op t x y t') ty w v w:=fun a o' ho _ ha=>by
 simp [execOp,ho,ha.ev hx,ha.ev hy,hg,hr]
section ints
variable {x y:Operand} {k:IntKind} {p q:Int} {t t':TypeId} (hx:ev fr x=some (.int k p)) (hy:ev fr y=some (.int k q))
include hx hy
theorem Y.lss:Yw P n fr (.binOp .lss t x y t') ty w (.bool (decide (p<q))) w:=Y.bin hx hy (by simp [eqGuard_at_int]) (by simp [binOp,Op.intCmp])
theorem Y.leq:Yw P n fr (.binOp .leq t x y t') ty w (.bool (decide (p≤q))) w:=Y.bin hx hy (by simp [eqGuard_at_int]) (by simp [binOp,Op.intCmp])
theorem Y.gtr:Yw P n fr (.binOp .gtr t x y t') ty w (.bool (decide (q<p))) w:=Y.bin hx hy (by simp [eqGuard_at_int]) (by simp [binOp,Op.intCmp])
theorem Y.geq:Yw P n fr (.binOp .geq t x y t') ty w (.bool (decide (q≤p))) w:=Y.bin hx hy (by simp [eqGuard_at_int]) (by simp [binOp,Op.intCmp])
theorem Y.eql:Yw P n fr (.binOp .eql t x y t') ty w (.bool (decide (p=q))) w:=Y.bin hx hy (by simp [eqGuard_at_int]) (by simp [binOp,Op.intCmp,BEq.beq])
theorem Y.neq:Yw P n fr (.binOp .neq t x y t') ty w (.bool (decide (p≠q))) w:=Y.bin hx hy (by simp [eqGuard_at_int]) (by simp [binOp,Op.intCmp,bne,BEq.beq])
theorem Y.Dh:Yw P n fr (.binOp .add t x y t') ty w (.int k (k.wrap (p+q))) w:=Y.bin hx hy (by simp [eqGuard_at_int]) (by simp [binOp,Op.intCmp,Op.intArith])
theorem Y.xH:Yw P n fr (.binOp .sub t x y t') ty w (.int k (k.wrap (p-q))) w:=Y.bin hx hy (by simp [eqGuard_at_int]) (by simp [binOp,Op.intCmp,Op.intArith])
theorem Y.mul_k:Yw P n fr (.binOp .mul t x y t') ty w (.int k (k.wrap (p*q))) w:=Y.bin hx hy (by simp [eqGuard_at_int]) (by simp [binOp,Op.intCmp,Op.intArith])
end ints
theorem jj{x:Int}(h:eE x):IntKind.i64.wrap x=x:=IntWalk.i64_in x h
section i64
variable {x y:Operand} {p q:Int} {t t':TypeId} (hx:ev fr x=some (.int .i64 p)) (hy:ev fr y=some (.int .i64 q))
include hx hy
theorem Y.add(h:eE (p+q)):Yw P n fr (.binOp .add t x y t') ty w (.int .i64 (p+q)) w:=by have:=Y.Dh (P:=P) (n:=n) (w:=w) (ty:=ty) (t:=t) (t':=t') hx hy;rwa [jj h]at this
theorem Y.sub(h:eE (p-q)):Yw P n fr (.binOp .sub t x y t') ty w (.int .i64 (p-q)) w:=by have:=Y.xH (P:=P) (n:=n) (w:=w) (ty:=ty) (t:=t) (t':=t') hx hy;rwa [jj h]at this
theorem Y.mul(h:eE (p*q)):Yw P n fr (.binOp .mul t x y t') ty w (.int .i64 (p*q)) w:=by have:=Y.mul_k (P:=P) (n:=n) (w:=w) (ty:=ty) (t:=t) (t':=t') hx hy;rwa [jj h]at this
end i64
theorem Y.not{x:Operand}{b:Bool}{t:TypeId}(hx:ev fr x=some (.bool b)):Yw P n fr (.unOp .not t x) ty w (.bool (!b)) w:=fun a o' ho _ ha=>by
 simp [execOp,ho,ha.ev hx,Op.unary]
theorem Y.extract{x:Operand}{vs:Array Value}{i:Nat}{v:Value}(hx:ev fr x=some (.tuple vs))(hv:vs[i]? =some v):Yw P n fr (.extract x i) ty w v w:=fun a o' ho _ ha=>by
 simp [execOp,ho,ha.ev hx,Instr.extract,hv]
theorem Y.de{x:Operand}{k k':IntKind}{p:Int}{s d:TypeId}{ds:TypeDesc}(hs:P.underlying s=some ds)(hd:P.underlying d=some (.int k'))(hx:ev fr x=some (.int k p)):
  Yw P n fr (.convert s d x) ty w (.int k' (k'.wrap p)) w:=fun a o' ho _ ha=>by
 simp [execOp,ho,ha.ev hx,convert,run_underlying hs,run_underlying hd,Conv.intToInt]
theorem Y.tj{x y:Operand}{p q:ByteArray}{t t':TypeId}(hx:ev fr x=some (.string p))(hy:ev fr y=some (.string q)):
  Yw P n fr (.binOp .neq t x y t') ty w (.bool (!(p.toList==q.toList))) w:=Y.bin hx hy (by simp [eqGuard_at_string]) (by simp [binOp,Op.stringOp])
theorem Y.cJ{x y:Operand}{s:ByteArray}{k:IntKind}{i:Nat}{t:TypeId}(hT:P.underlying t=some .string)(hx:ev fr x=some (.string s))(hy:ev fr y=some (.int k (i:Int)))(hi:i<s.size):
  Yw P n fr (.index t x y) ty w (.int .u8 (s[i].toNat:Int)) w:=fun a o' ho _ ha=>by
 have h0:(0:Int)≤(i:Int):=by omega
 have h1:s[i]? =some s[i]:=by simp [hi]
 simp [execOp,ho,ha.ev hx,ha.ev hy,Instr.index,asIntOf,run_underlying hT,h0,h1]
end Y
end Go.Fw
namespace Go.Fw
open Go.RowKit
section short
variable {P:Program} {n:NN} {Φ:Exit→Fr→World→Prop} {fr:Fr} {w:World} {ops:Array Oper} {rest:List Oper} {d:Nat} {op:Op} {ty:TypeId} {pos:String} {aft:Array Edge} {vl:Value} {w':World} {x:Operand} {C:World→Prop} {Ψ:Fr→Prop}
theorem Km{c:Operand}{x y:Code}{p:Prop}{inst:Decidable p}(hc:ev fr c=some (.bool (@decide p inst)))(ht:p→CW P x n Φ fr w)(hf:¬p→CW P y n Φ fr w):CW P (.cond c x y) n Φ fr w:=CW.AG hc ht hf
theorem Kl{c:Operand}{x y:Code}{p:Prop}{inst:Decidable p}(hc:ev fr c=some (.bool (!@decide p inst)))(ht:¬p→CW P x n Φ fr w)(hf:p→CW P y n Φ fr w):CW P (.cond c x y) n Φ fr w:=CW.vD hc ht hf
theorem Kt{c:Operand}{x y:Code}{b:Bool}(hc:ev fr c=some (.bool (!b)))(ht:b=false→CW P x n Φ fr w)(hf:b=true→CW P y n Φ fr w):CW P (.cond c x y) n Φ fr w:=CW.A0 hc ht hf
theorem Kj{c:Operand}{x y:Code}{t:Bool}(hc:ev fr c=some (.bool t))(ht:t=true→CW P x n Φ fr w)(hf:t=false→CW P y n Φ fr w):CW P (.cond c x y) n Φ fr w:=CW.cond hc ht hf
theorem WL.v(hy:Yw P n fr op ty w vl w')(h:WL P ops n Φ rest ((d,vl)::fr) w')(hd:d<n.1:=by decide):WL P ops n Φ (⟨some d,op,ty,pos,aft,none⟩::rest) fr w:=WL.val hy hd h
theorem WL.m(hx:ev fr x=some vl)(h:WL P ops n Φ rest ((d,vl)::fr) w)(hd:d<n.1:=by decide):WL P ops n Φ (⟨some d,.move x,ty,pos,aft,none⟩::rest) fr w:=WL.val (Y.move hx) hd h
theorem WL.a(hx:ev fr x=some vl)(h:WL P ops n Φ rest ((d,vl)::fr) w)(hd:d<n.1:=by decide):WL P ops n Φ (⟨some d,.assign x,ty,pos,aft,none⟩::rest) fr w:=WL.val (Y.assign hx) hd h
theorem QL.v(hy:∀w,C w→Yw P n fr op ty w vl w)(h:QL P ops C n Ψ rest ((d,vl)::fr))(hd:d<n.1:=by decide):QL P ops C n Ψ (⟨some d,op,ty,pos,aft,none⟩::rest) fr:=QL.val hy hd h
theorem QL.m(hx:ev fr x=some vl)(h:QL P ops C n Ψ rest ((d,vl)::fr))(hd:d<n.1:=by decide):QL P ops C n Ψ (⟨some d,.move x,ty,pos,aft,none⟩::rest) fr:=QL.val (fun _ _=>Y.move hx) hd h
theorem QL.a(hx:ev fr x=some vl)(h:QL P ops C n Ψ rest ((d,vl)::fr))(hd:d<n.1:=by decide):QL P ops C n Ψ (⟨some d,.assign x,ty,pos,aft,none⟩::rest) fr:=QL.val (fun _ _=>Y.assign hx) hd h
theorem CW.sr{id:Nat}{l:List Oper}{y:Code}(h:∀K:Fr→World→Prop,(∀f w,CW P y n Φ f w→K f w)→WL P l.toArray n (mL K Φ) l fr w)(hR:∀K,tR n l (mL K Φ):=by intro K;first|exact .inl rfl|exact .inr ⟨rfl,fun _ _ h=>h⟩):CW P (.seq (.region id l.toArray false) y) n Φ fr w:=CW.seq fun K hK=>CW.region (h K hK) (hR K)
theorem WL.g{j dj:Nat}{b:Bool}(hj:(ops[j]?).bind (·.dst)=some dj)(hg:fr.get dj=some (.bool b))(hy:Yw P n fr op ty w vl w')(h:WL P ops n Φ rest ((d,vl)::fr) w')(hd:d<n.1:=by decide):WL P ops n Φ (⟨some d,op,ty,pos,aft,some (j,b)⟩::rest) fr w:=WL.oU hj hg hy hd h
theorem WL.o{j dj:Nat}{b:Bool}(hj:(ops[j]?).bind (·.dst)=some dj)(hg:fr.get dj=some (.bool (!b)))(h:WL P ops n Φ rest ((d,undef)::fr) w)(hd:d<n.1:=by decide):WL P ops n Φ (⟨some d,op,ty,pos,aft,some (j,b)⟩::rest) fr w:=WL.nP hj hg hd h
theorem QL.g{j dj:Nat}{b:Bool}(hj:(ops[j]?).bind (·.dst)=some dj)(hg:fr.get dj=some (.bool b))(hy:∀w,C w→Yw P n fr op ty w vl w)(h:QL P ops C n Ψ rest ((d,vl)::fr))(hd:d<n.1:=by decide):QL P ops C n Ψ (⟨some d,op,ty,pos,aft,some (j,b)⟩::rest) fr:=QL.oU hj hg hy hd h
theorem QL.o{j dj:Nat}{b:Bool}(hj:(ops[j]?).bind (·.dst)=some dj)(hg:fr.get dj=some (.bool (!b)))(h:QL P ops C n Ψ rest ((d,undef)::fr))(hd:d<n.1:=by decide):QL P ops C n Ψ (⟨some d,op,ty,pos,aft,some (j,b)⟩::rest) fr:=QL.nP hj hg hd h
theorem Fr.ok{a b:Fr}(h:Fr.le a b:=by repeat (first|exact Fr.le.nil|refine Fr.le.cons rfl ?_)):Fr.le a b:=h
theorem Fr.cT{a b:Fr}(h:Fr.le a b:=by repeat (first|exact Fr.le.refl|refine Fr.le.push rfl ?_)):Fr.le a b:=h
theorem aH{p:Prop}(h:p:=by first|(simp only [*,Int.natCast_inj,Bool.not_eq_true',decide_eq_false_iff_not,decide_eq_true_eq,not_true_eq_false,not_false_eq_true,true_and,false_and,and_true,and_false,false_or,or_false,true_or,or_true,iff_true,true_iff,iff_false,false_iff];done)|(simp_all;done)|(refine congrArg Value.bool (Bool.eq_iff_iff.2 ?_);simp_all;done)|(simp_all;omega)):p:=h
theorem bp{p q r:Prop}(a:q)(b:r)(k:q→r→p:=by(intro a b;first|exact Km rfl a b|exact Kl rfl a b|exact Kt rfl a b|exact Kj rfl a b)):p:=k a b
theorem WL.hD{l:List Oper}{p:Prop}{inst:Decidable p}(ht:p→WL P ops n Φ l ((d,.bool true)::(d,.bool (@decide p inst))::fr) w)(hf:¬p→WL P ops n Φ l ((d,.bool false)::(d,.bool (@decide p inst))::fr) w):WL P ops n Φ l ((d,.bool (@decide p inst))::fr) w:=WL.sU (inst:=inst) (by simp [Fr.get]) ht hf
theorem WL.hN{l:List Oper}{p:Prop}{inst:Decidable p}(ht:¬p→WL P ops n Φ l ((d,.bool true)::(d,.bool (!@decide p inst))::fr) w)(hf:p→WL P ops n Φ l ((d,.bool false)::(d,.bool (!@decide p inst))::fr) w):WL P ops n Φ l ((d,.bool (!@decide p inst))::fr) w:=WL.rG (inst:=inst) (by simp [Fr.get]) ht hf
theorem WL.hB{l:List Oper}{c:Bool}(ht:c=true→WL P ops n Φ l ((d,.bool true)::(d,.bool c)::fr) w)(hf:c=false→WL P ops n Φ l ((d,.bool false)::(d,.bool c)::fr) w):WL P ops n Φ l ((d,.bool c)::fr) w:=WL.cases (by simp [Fr.get]) ht hf
theorem QL.hD{l:List Oper}{p:Prop}{inst:Decidable p}(ht:p→QL P ops C n Ψ l ((d,.bool true)::(d,.bool (@decide p inst))::fr))(hf:¬p→QL P ops C n Ψ l ((d,.bool false)::(d,.bool (@decide p inst))::fr)):QL P ops C n Ψ l ((d,.bool (@decide p inst))::fr):=QL.sU (inst:=inst) (by simp [Fr.get]) ht hf
theorem QL.hN{l:List Oper}{p:Prop}{inst:Decidable p}(ht:¬p→QL P ops C n Ψ l ((d,.bool true)::(d,.bool (!@decide p inst))::fr))(hf:p→QL P ops C n Ψ l ((d,.bool false)::(d,.bool (!@decide p inst))::fr)):QL P ops C n Ψ l ((d,.bool (!@decide p inst))::fr):=QL.rG (inst:=inst) (by simp [Fr.get]) ht hf
theorem QL.hB{l:List Oper}{c:Bool}(ht:c=true→QL P ops C n Ψ l ((d,.bool true)::(d,.bool c)::fr))(hf:c=false→QL P ops C n Ψ l ((d,.bool false)::(d,.bool c)::fr)):QL P ops C n Ψ l ((d,.bool c)::fr):=QL.cases (by simp [Fr.get]) ht hf
theorem dO{p q r:Prop}(a:q)(b:r)(k:q→r→p:=by(intro a b;first|exact WL.hD a b|exact WL.hN a b|exact WL.hB a b|exact QL.hD a b|exact QL.hN a b|exact QL.hB a b)):p:=k a b
end short
end Go.Fw
