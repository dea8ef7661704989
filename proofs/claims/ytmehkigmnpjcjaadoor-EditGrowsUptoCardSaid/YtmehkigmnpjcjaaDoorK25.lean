/- Parts of a proof: what its last text leans on. No condition. -/
import Derived.Test.YtmehkigmnpjcjaaDoorK21
import Derived.Test.YtmehkigmnpjcjaaDoorK24
set_option linter.unusedSimpArgs false
set_option linter.unusedVariables false
/- edit.maker: keep, cut, put, walked. No condition but bounds. -/
namespace Go.Fw
open Go.RowKit Go.Fu
theorem St.allocM {P : Program} {n : NN} {fr : Fr} {w : World} {ty : TypeId} {t : TypeId} {i : TypeInfo} {z : Value} {cs : List Value} (hi : P.info? t = some i) (hz : i.zero = some z) (hv : z.cells = cs.toArray) : St P n fr (.alloc t) ty w (fun v w' => ∃ g, v = .pointer (some ⟨g, 0, none⟩) ∧ w.heap.size ≤ g ∧ Blk w' g t cs ∧ Ext w w') := fun a o' ho hty ha => by
 refine ⟨_, w.alloc (.cells cs.toArray t), ?_, w.heap.size, rfl, Nat.le_refl _, Blk.new w t cs, Chg.alloc _⟩
 simp [execOp, ho, Instr.alloc, zeroValue, typeInfo, hi, hz, newVar, newRow, hv]
def cutL (rs : List RefD) (a n : Nat) : List OpD := ((rs.drop a).take n).map fun r => ⟨2, false, r, 0⟩
theorem cutL_succ {rs : List RefD} {a n : Nat} {r : RefD} (h : rs[a + n]? = some r) : cutL rs a (n + 1) = cutL rs a n ++ [⟨2, false, r, 0⟩] := by
 rw [cutL, cutL, Go.Pl.take_succ (by rw [List.getElem?_drop]; exact h), List.map_append]; rfl
theorem cutL_len {rs : List RefD} {a n : Nat} : (cutL rs a n).length ≤ n := by rw [cutL, List.length_map, List.length_take]; omega
def putR (g : RefD × Bool × Bool) (n : Nat) : Nat → RefD
 | 0 => g.1
 | k + 1 => ⟨true, Dig.zero, ((n + (k + 1) : Nat) : Int)⟩
def putS (g : RefD × Bool × Bool) : Nat → Bool
 | 0 => g.2.1
 | _ + 1 => false
theorem insOps_get {g : RefD × Bool × Bool} {n k : Nat} {s : List UInt8} {b : UInt8} (h : s[k]? = some b) : (insOps g n s)[k]? = some ⟨1, putS g k, putR g n k, b⟩ := by
 rw [insOps, List.getElem?_mapIdx, h]
 cases k with
 | zero => rfl
 | succ k => simp [putS, putR]
end Go.Fw
namespace Go.Proofs.YtmehkigmnpjcjaaDoor
open Go.RowKit Go.Fw Go.Fu Go.Pl
abbrev TM : TypeId := 95
abbrev TRf : TypeId := 60
abbrev TOp : TypeId := 62
def mkrC (tv rv : Value) (a k : Nat) (ov : Value) : List Value := [tv, rv, .int .i64 (a : Int), .int .i64 (k : Int), ov]
section
variable {w : World} {a : Addr} {tv rv ov : Value} {x k : Nat} (h : Mem w a (mkrC tv rv x k ov))
include h
theorem mkr0 : w.cell? (a.add 0) = some tv := h.cell 0 rfl
theorem mkr1 : w.cell? (a.add 1) = some rv := h.cell 1 rfl
theorem mkr2 : w.cell? (a.add 2) = some (.int .i64 (x : Int)) := h.cell 2 rfl
theorem mkr3 : w.cell? (a.add 3) = some (.int .i64 (k : Int)) := h.cell 3 rfl
theorem mkr4 : w.cell? (a.add 4) = some ov := h.cell 4 rfl
end
theorem fo_editmaker0 : FieldOff Tryd.prog TM 0 0 := ⟨_, _, 1, Tryd.underlying95, rfl, by kernel_rfl, by decide, rfl⟩
theorem fo_editmaker1 : FieldOff Tryd.prog TM 1 1 := ⟨_, _, 1, Tryd.underlying95, rfl, by kernel_rfl, by decide, rfl⟩
theorem fo_editmaker2 : FieldOff Tryd.prog TM 2 2 := ⟨_, _, 1, Tryd.underlying95, rfl, by kernel_rfl, by decide, rfl⟩
theorem fo_editmaker3 : FieldOff Tryd.prog TM 3 3 := ⟨_, _, 1, Tryd.underlying95, rfl, by kernel_rfl, by decide, rfl⟩
theorem fo_editmaker4 : FieldOff Tryd.prog TM 4 4 := ⟨_, _, 1, Tryd.underlying95, rfl, by kernel_rfl, by decide, rfl⟩
structure MkrAt (w : World) (g : Nat) (tv rv ov : Value) (a k : Nat) (rs : List RefD) (os : List OpD) : Prop where
 blk : Blk w g TM (mkrC tv rv a k ov)
 refs : Own w TRf 34 rv ((rs.map refC).flatten)
 ops : Own w TOp 37 ov (flatO os)
theorem MkrAt.ext {w w' : World} {g : Nat} {tv rv ov : Value} {a k : Nat} {rs : List RefD} {os : List OpD} (h : MkrAt w g tv rv ov a k rs os) (hx : Ext w w') : MkrAt w' g tv rv ov a k rs os := ⟨h.blk.ext hx, h.refs.ext hx, h.ops.ext hx⟩
theorem MkrAt.chg {w w' : World} {g : Nat} {tv rv ov : Value} {a k : Nat} {rs : List RefD} {os : List OpD} {S : Nat → Prop} (h : MkrAt w g tv rv ov a k rs os) (hx : Chg S w w') (hg : ¬ S g) (hr : ∀ q, rv.ownBlock = some q → ¬ S q) (ho : ∀ q, ov.ownBlock = some q → ¬ S q) : MkrAt w' g tv rv ov a k rs os := ⟨h.blk.chg hx hg, h.refs.chg hx hr, h.ops.chg hx ho⟩
section
variable {w : World} {g : Nat} {tv rv ov : Value} {a k : Nat} {rs : List RefD} {os : List OpD} (h : MkrAt w g tv rv ov a k rs os)
include h
theorem MkrAt.rg : ∀ q, rv.ownBlock = some q → q ≠ g := fun q hq e => by
 obtain ⟨_, _, h1⟩ := h.refs.kind hq
 subst e; exact absurd (blk_kind h1 h.blk) de_
theorem MkrAt.og : ∀ q, ov.ownBlock = some q → q ≠ g := fun q hq e => by
 obtain ⟨_, _, h1⟩ := h.ops.kind hq
 subst e; exact absurd (blk_kind h1 h.blk) de_
theorem MkrAt.ro : ∀ q, rv.ownBlock = some q → ov.ownBlock ≠ some q := fun q hq e => by
 obtain ⟨_, _, h1⟩ := h.refs.kind hq
 obtain ⟨_, _, h2⟩ := h.ops.kind e
 exact absurd (blk_kind h1 h2) de_
end
theorem MkrAt.ref {w w' : World} {g : Nat} {tv ov : Value} {ra : Addr} {rm rc a k : Nat} {rs : List RefD} {os : List OpD} (h : MkrAt w g tv (.slice (some ra) rm rc) ov a k rs os) (hc : Chg (fun q => q = g ∨ ov.ownBlock = some q) w w') {j : Nat} {r : RefD} (hj : rs[j]? = some r) : Mem w' (ra.add (j * 34)) (refC r) := by
 obtain ⟨a, e, hm⟩ := ((h.refs.chg hc (fun q hq e => by
  rcases e with e | e
  ·
   exact h.rg q hq e
  ·
   exact h.ro q hq e)).sl refC_length de_).get hj
 injection e with e
 subst e; exact hm
theorem bld_opD (r : RefD) (w : World) : (Instr.build 62 [(0, Value.int .i64 2), (2, refV r)].toArray).run Tryd.prog w = .ok (opV ⟨2, false, r, 0⟩) w := run_build w _ _ _ (by
 have hb : ∀ parts, Tryd.prog.built 62 parts = Instr.fill (fun i => #[(0, 1), (1, 1), (2, 34), (36, 1)][i]?) (opC ⟨0, false, RefD.zero, 0⟩).toArray parts := fun parts => by kernel_rfl
 show Tryd.prog.built _ [(0, Value.int .i64 2), (2, refV r)] = _
 rw [hb]
 have e0 : opC ⟨0, false, RefD.zero, 0⟩ = [] ++ [Value.int .i64 0] ++ ([Value.bool false] ++ refC RefD.zero ++ [bc 0]) := rfl
 rw [e0, fill_step [] [Value.int .i64 0] ([Value.bool false] ++ refC RefD.zero ++ [bc 0]) [.int .i64 2] rfl rfl rfl rfl]
 have e1 : [] ++ [Value.int .i64 2] ++ ([Value.bool false] ++ refC RefD.zero ++ [bc 0]) = [Value.int .i64 2, .bool false] ++ refC RefD.zero ++ [bc 0] := by simp
 rw [e1, fill_step [Value.int .i64 2, .bool false] (refC RefD.zero) [bc 0] (refC r) (by rw [refC_length]; rfl) rfl (by rw [refC_length, refC_length]) rfl, Instr.fill]
 simp [opC, bc])
theorem bld_refP (n : Int) (w : World) : (Instr.build 60 [(0, Value.bool true), (2, Value.int .i64 n)].toArray).run Tryd.prog w = .ok (refV ⟨true, Dig.zero, n⟩) w := run_build w _ _ _ (by
 show Tryd.prog.built _ [(0, Value.bool true), (2, Value.int .i64 n)] = _
 rw [built_ref]
 have e0 : refC RefD.zero = [] ++ [Value.bool false] ++ (digC Dig.zero ++ [Value.int .i64 0]) := rfl
 rw [e0, fill_step [] [Value.bool false] (digC Dig.zero ++ [Value.int .i64 0]) [Value.bool true] rfl rfl rfl rfl]
 have e1 : [] ++ [Value.bool true] ++ (digC Dig.zero ++ [Value.int .i64 0]) = ([Value.bool true] ++ digC Dig.zero) ++ [Value.int .i64 0] ++ [] := by simp
 rw [e1, fill_step ([Value.bool true] ++ digC Dig.zero) [Value.int .i64 0] [] [.int .i64 n] rfl rfl rfl (by rw [List.length_append, digC_length]; rfl), Instr.fill]
 simp [refV, refC])
theorem bld_opF (l : Bool) (b : UInt8) (r : RefD) (w : World) : (Instr.build 62 [(0, Value.int .i64 1), (1, Value.bool l), (2, refV r), (3, Value.int .u8 (b.toNat : Int))].toArray).run Tryd.prog w = .ok (opV ⟨1, l, r, b⟩) w := run_build w _ _ _ (by
 have hb : ∀ parts, Tryd.prog.built 62 parts = Instr.fill (fun i => #[(0, 1), (1, 1), (2, 34), (36, 1)][i]?) (opC ⟨0, false, RefD.zero, 0⟩).toArray parts := fun parts => by kernel_rfl
 show Tryd.prog.built _ [(0, Value.int .i64 1), (1, Value.bool l), (2, refV r), (3, Value.int .u8 (b.toNat : Int))] = _
 rw [hb]
 have e0 : opC ⟨0, false, RefD.zero, 0⟩ = [] ++ [Value.int .i64 0] ++ ([Value.bool false] ++ refC RefD.zero ++ [bc 0]) := rfl
 rw [e0, fill_step [] [Value.int .i64 0] ([Value.bool false] ++ refC RefD.zero ++ [bc 0]) [.int .i64 1] rfl rfl rfl rfl]
 have e1 : [] ++ [Value.int .i64 1] ++ ([Value.bool false] ++ refC RefD.zero ++ [bc 0]) = [Value.int .i64 1] ++ [Value.bool false] ++ (refC RefD.zero ++ [bc 0]) := by simp
 rw [e1, fill_step [Value.int .i64 1] [Value.bool false] (refC RefD.zero ++ [bc 0]) [Value.bool l] rfl rfl rfl rfl]
 have e2 : [Value.int .i64 1] ++ [Value.bool l] ++ (refC RefD.zero ++ [bc 0]) = [Value.int .i64 1, .bool l] ++ refC RefD.zero ++ [bc 0] := by simp
 rw [e2, fill_step [Value.int .i64 1, .bool l] (refC RefD.zero) [bc 0] (refC r) (by rw [refC_length]; rfl) rfl (by rw [refC_length, refC_length]) rfl]
 have e3 : [Value.int .i64 1, .bool l] ++ refC r ++ [bc 0] = ([Value.int .i64 1, .bool l] ++ refC r) ++ [bc 0] ++ [] := by simp
 rw [e3, fill_step ([Value.int .i64 1, .bool l] ++ refC r) [bc 0] [] [.int .u8 (b.toNat : Int)] rfl rfl rfl (by rw [List.length_append, refC_length]; rfl), Instr.fill]
 simp [opC, bc])
theorem mkeep_any (g : Nat) (tv rv ov : Value) (at_ kept : Nat) (rs : List RefD) (os : List OpD) (ed : EdD) (w : World) (hA : MkrAt w g tv rv ov at_ kept rs os) (h1 : at_ ≤ 1000000) (h2 : ed.n ≤ 1000000) : Calls Tryd.prog 30 #[.pointer (some ⟨g, 0, none⟩), .agg (edC ed).toArray] w (Ret fun _ w' => MkrAt w' g tv rv ov (at_ + ed.n) (at_ + ed.n) rs os ∧ Chg (fun k => k = g) w w') := by
 have hg0 := hA.blk.lt
 have hog := hA.og
 have hrg := hA.rg
 refine calls_of_CW 20 [] [(0, .pointer (some ⟨g, 0, none⟩)), (1, .agg (edC ed).toArray)] Tryd.func30 rfl rfl rfl (by simp) args2 ?_
 have hE : Ext w w := Chg.refl
 refine CW.sr fun K1 hK1 => ?_
 refine WL.box rfl rfl de_ fun g3 w1 hx1 hg3 hB3 => ?_
 have hlt3 := hB3.lt; have hz1 := hx1.size
 have hM3 := hB3.mem; have hz1 := hx1.size; have hE := hE.thenExt hx1
 refine WL.nil (hK1 _ _ ?_); try clear hK1
 refine CW.seq fun K2 hK2 => ?_
 refine CW.held (fun wq => Chg (fun k => k = g) w1 wq) kr_ 10 rfl fun w2 hx2 => ?_
 have hS : Chg (fun k => k = g) w1 w2 := hx2.chg
 have hA2 := hA.ext (hx1.thenExt hx2)
 have hz2 := hx2.size
 refine RH.tk 0 hS rfl (fun wq hq => Y.move rfl) ?_
 refine RH.tk 1 hS rfl (fun wq hq => Y.nilCheck rfl) ?_
 refine RH.tk 2 hS rfl (fun wq hq => Y.fieldAddr fo_editmaker2 rfl) ?_
 refine RH.tk 4 hS rfl (fun wq hq => Y.fieldAddr fo_apiEdit1 rfl) ?_
 refine RH.tk 5 hS rfl (fun wq hq => Y.load1 Tryd.underlying3 rfl (hB3.chg hq no_).mem.apiEdit1 rfl) ?_
 refine RH.one 3 kr_ ?_
 refine RS.val rfl (Y.load1 Tryd.underlying3 rfl (mkr2 hA2.blk.mem) rfl) de_ ⟨hS, ?_⟩
 refine RH.tk 6 hS rfl (fun wq hq => Y.add rfl rfl o2_) ?_
 refine RH.tk 7 hS rfl (fun wq hq => Y.nilCheck rfl) ?_
 refine RH.tk 8 hS rfl (fun wq hq => Y.fieldAddr fo_editmaker2 rfl) ?_
 refine RH.one 9 kr_ ?_
 refine RS.store rfl (g := g) (pre := [tv, rv]) (old := [.int .i64 (at_ : Int)]) (post := [.int .i64 (kept : Int), ov]) (new := [.int .i64 ((at_ : Int) + (ed.n : Int))]) rfl rfl rfl rfl kr_ (by simpa [mkrC] using hA2.blk) rfl (one1 rfl) (fun w3 hc3 hB3_ => ?_)
 have hS : Chg (fun k => k = g) w1 w3 := hS.trans hc3 (fun k _ h => h)
 have hB4 : Blk w3 g TM [tv, rv, .int .i64 ((at_ : Int) + (ed.n : Int)), .int .i64 (kept : Int), ov] := by simpa using hB3_
 refine ⟨hS, ?_⟩
 refine RH.done kr_ ?_
 skip
 refine hK2 _ _ ?_; try clear hK2
 refine CW.region ?_
 refine WL.m rfl ?_
 refine WL.m rfl ?_
 refine WL.v (Y.nilCheck rfl) ?_
 refine WL.v (Y.fieldAddr fo_editmaker2 rfl) ?_
 refine WL.v (Y.load1 Tryd.underlying3 rfl (show w3.cell? (Addr.add ⟨g, 0, none⟩ 2) = some (.int .i64 ((at_ : Int) + (ed.n : Int))) from hB4.mem.cell 2 rfl) rfl) ?_
 refine WL.v (Y.nilCheck rfl) ?_
 refine WL.v (Y.fieldAddr fo_editmaker3 rfl) ?_
 refine WL.store (g := g) (pre := [tv, rv, .int .i64 ((at_ : Int) + (ed.n : Int))]) (old := [.int .i64 (kept : Int)]) (post := [ov]) (new := [.int .i64 ((at_ : Int) + (ed.n : Int))]) rfl rfl rfl rfl kr_ (by simpa using hB4) ln_ (one1 rfl) (fun w4 hc4 hB4_ => ?_)
 have hz4 := hc4.size
 have hB5 : Blk w4 g TM (mkrC tv rv (at_ + ed.n) (at_ + ed.n) ov) := by simpa [mkrC] using hB4_
 have hC : Chg (fun k => k = g) w w4 := ((Ext.chg hx1).trans hS (fun k _ h => h)).trans hc4 (fun k _ h => h)
 refine WL.nil ?_
 refine ⟨_, rfl, ?_⟩
 exact ⟨⟨hB5, hA.refs.chg hC (fun q hq h => hrg q hq h), hA.ops.chg hC (fun q hq h => hog q hq h)⟩, hC⟩
set_option maxHeartbeats 1000000 in
theorem mcut_any (g : Nat) (tv rv ov : Value) (at_ kept : Nat) (rs : List RefD) (os : List OpD) (ed : EdD) (w : World) (hA : MkrAt w g tv rv ov at_ kept rs os) (h1 : at_ + ed.n ≤ rs.length) (h2 : rs.length ≤ 1000000) (h3 : os.length ≤ 1000000) : Calls Tryd.prog 31 #[.pointer (some ⟨g, 0, none⟩), .agg (edC ed).toArray] w (Ret fun _ w' => ∃ ov', MkrAt w' g tv rv ov' (at_ + ed.n) kept rs (os ++ cutL rs at_ ed.n) ∧ Chg (fun k => k = g ∨ ov.ownBlock = some k) w w' ∧ (∀ q, ov'.ownBlock = some q → ov.ownBlock = some q ∨ w.heap.size ≤ q)) := by
 obtain ⟨rA, rm, rc, rfl⟩ := hA.refs.lens
 obtain ⟨hrm, _, hrc⟩ := hA.refs.len refC_length de_
 have hcl := fun n => cutL_len (rs := rs) (a := at_) (n := n)
 refine calls_of_CW 36 [] [(0, .pointer (some ⟨g, 0, none⟩)), (1, .agg (edC ed).toArray)] Tryd.func31 rfl rfl rfl (by simp) args2 ?_
 have hE : Ext w w := Chg.refl
 refine CW.sr fun K1 hK1 => ?_
 refine WL.box rfl rfl de_ fun g3 w1 hx1 hg3 hB3 => ?_
 have hlt3 := hB3.lt; have hz1 := hx1.size
 have hM3 := hB3.mem; have hz1 := hx1.size; have hE := hE.thenExt hx1
 refine WL.nil (hK1 _ _ ?_); try clear hK1
 refine CW.sr fun K2 hK2 => ?_
 refine WL.v (Y.fieldAddr fo_apiEdit1 rfl) ?_
 refine WL.v (Y.load1 Tryd.underlying3 rfl hB3.mem.apiEdit1 rfl) ?_
 refine WL.m rfl ?_
 refine WL.nil (hK2 _ _ ?_); try clear hK2
 refine CW.block ?_
 refine CW.loop (X := Nat × Value) (fun x => [(0, .pointer (some ⟨g, 0, none⟩)), (5, .int .i64 (ed.n : Int)), (6, .int .i64 (x.1 : Int))]) (fun x w0 => x.1 ≤ ed.n ∧ MkrAt w0 g tv (.slice rA rm rc) x.2 (at_ + x.1) kept rs (os ++ cutL rs at_ x.1) ∧ Chg (fun k => k = g ∨ ov.ownBlock = some k) w w0 ∧ ∀ q, x.2.ownBlock = some q → ov.ownBlock = some q ∨ w.heap.size ≤ q) (fun x => ed.n - x.1) (0, ov) Fr.ok ⟨Nat.zero_le _, (by simpa [cutL] using hA.ext hE), Ext.chg hE, fun q h => .inl h⟩ ?_
 intro x w2 hl2
 obtain ⟨i, ov2⟩ := x
 obtain ⟨hi, hA2, hC, hf⟩ := hl2
 dsimp only at hi hA2 hf ⊢
 have hE : Ext w2 w2 := Chg.refl
 have hzC := hC.size
 refine CW.sr fun K3 hK3 => ?_
 refine WL.v (Y.lss rfl rfl) ?_
 refine WL.nil (hK3 _ _ ?_); try clear hK3
 refine CW.seq fun K4 hK4 => ?_
 (first | refine cd_ rfl ?_ ?_ | refine ce_ rfl ?_ ?_ | refine cn_ rfl ?_ ?_ | refine cb_ rfl ?_ ?_) <;> intro ht5
 ·
  -- then
  refine CW.skip ?_
  refine hK4 _ _ ?_; try clear hK4
  refine CW.seq fun K6 hK6 => ?_
  refine CW.block ?_
  obtain ⟨r, hr⟩ : ∃ r, rs[at_ + i]? = some r := ⟨_, List.getElem?_eq_getElem om_⟩
  obtain ⟨ra, hra, _⟩ := (hA2.refs.sl refC_length de_).get hr
  subst hra
  have hol : (os ++ cutL rs at_ i).length ≤ 2000000 := by have := hcl i; rw [List.length_append]; omega
  refine CW.seq_to (X := Value) (fun v => [(0, .pointer (some ⟨g, 0, none⟩)), (5, .int .i64 (ed.n : Int)), (6, .int .i64 (i : Int))]) (fun v w0 => MkrAt w0 g tv (.slice (some ra) rm rc) v (at_ + i) kept rs (os ++ cutL rs at_ (i + 1)) ∧ Chg (fun k => k = g ∨ ov2.ownBlock = some k) w2 w0 ∧ ∀ q, v.ownBlock = some q → ov2.ownBlock = some q ∨ w2.heap.size ≤ q) ?_ ?_
  ·
   skip
   refine CW.held (fun wq => Chg (fun k => k = g ∨ ov2.ownBlock = some k) w2 wq ∧ wq.cell? (Addr.add ⟨g, 0, none⟩ 1) = some (Value.slice (some ra) rm rc) ∧ wq.cell? (Addr.add ⟨g, 0, none⟩ 2) = some (.int .i64 ((at_ + i : Nat) : Int))) kr_ 21 rfl fun w3 hx3 => ?_
   have hA := hA2.ext hx3
   have hS1 : Chg (fun k => k = g ∨ ov2.ownBlock = some k) w2 w3 := hx3.chg
   have hS : Chg (fun k => k = g ∨ ov2.ownBlock = some k) w2 w3 ∧ _ ∧ _ := ⟨hS1, mkr1 hA.blk.mem, mkr2 hA.blk.mem⟩
   refine RH.tk 0 hS rfl (fun wq hq => Y.move rfl) ?_
   refine RH.tk 1 hS rfl (fun wq hq => Y.move rfl) ?_
   refine RH.tk 2 hS rfl (fun wq hq => Y.nilCheck rfl) ?_
   refine RH.tk 3 hS rfl (fun wq hq => Y.fieldAddr fo_editmaker4 rfl) ?_
   refine RH.tk 5 hS rfl (fun wq hq => Y.move rfl) ?_
   refine RH.tk 6 hS rfl (fun wq hq => Y.nilCheck rfl) ?_
   refine RH.tk 7 hS rfl (fun wq hq => Y.fieldAddr fo_editmaker1 rfl) ?_
   refine RH.tk 8 hS rfl (fun wq hq => Y.load1 Tryd.underlying93 rfl (hq.2.1) rfl) ?_
   refine RH.tk 9 hS rfl (fun wq hq => Y.move rfl) ?_
   refine RH.tk 10 hS rfl (fun wq hq => Y.nilCheck rfl) ?_
   refine RH.tk 11 hS rfl (fun wq hq => Y.fieldAddr fo_editmaker2 rfl) ?_
   refine RH.tk 12 hS rfl (fun wq hq => Y.load1 Tryd.underlying3 rfl (hq.2.2) rfl) ?_
   refine RH.tk 13 hS rfl (fun wq hq => Y.indexAddrN Tryd.underlying93 rfl rfl sz0_apiRef om_) ?_
   refine RH.tk 14 hS rfl (fun wq hq => Y.load Tryd.underlying60 rfl (hA2.ref hq.1 hr) (sz_apiRef _) rfl) ?_
   refine RH.tk 15 hS rfl (fun wq hq => Y.build rfl (bld_opD r _)) ?_
   refine RH.two 4 16 kr_ ?_ ?_
   ·
    skip
    refine RS.val rfl (Y.load1 Tryd.underlying27 rfl (mkr4 hA.blk.mem) rfl) de_ ⟨hS, ?_⟩
    refine RH.one 16 kr_ ?_
    refine RS.st rfl (St.buildSlice rfl (bs1_op ⟨2, false, r, 0⟩)) de_ fun v24 w4 hR4 => ?_
    obtain ⟨gb, rfl, hgb, hBb, hxb⟩ := hR4
    have hzb := hxb.size
    have hA := hA.ext hxb
    have hS1 : Chg (fun k => k = g ∨ ov2.ownBlock = some k) w2 w4 := hS1.thenExt hxb
    have hS : Chg (fun k => k = g ∨ ov2.ownBlock = some k) w2 w4 ∧ _ ∧ _ := ⟨hS1, mkr1 hA.blk.mem, mkr2 hA.blk.mem⟩
    have hzS1 := hS1.size
    refine ⟨hS, ?_⟩
    refine RH.one 17 kr_ ?_
    refine RS.st rfl (St.append (m := 1) (news := opC ⟨2, false, r, 0⟩) Tryd.underlying27 Tryd.underlying27 ai_op rfl rfl hA.ops (Fw.Src.one hBb (opC_length _)) one_opC (by rw [flat_length opC_length]; omega)) de_ fun v25 w5 hR5 => ?_
    obtain ⟨hO5, hc5, hf5⟩ := hR5
    have hz5 := hc5.size
    have hB5 := hA.blk.chg hc5 (fun h => hA.og _ h rfl)
    have hr5 := hA.refs.chg hc5 (fun q hq h => hA.ro q hq h)
    have hrg := hA.rg
    obtain ⟨A7, m7, c7, rfl⟩ := hO5.lens
    have hS1 : Chg (fun k => k = g ∨ ov2.ownBlock = some k) w2 w5 := hS1.trans hc5 (fun q _ h => .inr h)
    have hS : Chg (fun k => k = g ∨ ov2.ownBlock = some k) w2 w5 ∧ _ ∧ _ := ⟨hS1, mkr1 hB5.mem, mkr2 hB5.mem⟩
    refine ⟨hS, ?_⟩
    refine RH.tk 18 hS rfl (fun wq hq => Y.nilCheck rfl) ?_
    refine RH.tk 19 hS rfl (fun wq hq => Y.fieldAddr fo_editmaker4 rfl) ?_
    refine RH.one 20 kr_ ?_
    refine RS.store rfl (g := g) (pre := [tv, .slice (some ra) rm rc, .int .i64 ((at_ + i : Nat) : Int), .int .i64 ((kept : Nat) : Int)]) (old := [ov2]) (post := []) (new := [.slice A7 m7 c7]) rfl rfl rfl rfl kr_ (by simpa [mkrC] using hB5) rfl (one1 rfl) (fun w6 hc6 hB6_ => ?_)
    have hB6 : Blk w6 g TM (mkrC tv (.slice (some ra) rm rc) (at_ + i) (kept) (.slice A7 m7 c7)) := by simpa [mkrC] using hB6_
    have hf6 : ∀ q, (Value.slice A7 m7 c7).ownBlock = some q → ov2.ownBlock = some q ∨ w2.heap.size ≤ q := fun q hq => by
     have := hS1.size
     rcases hf5 with h | h
     ·
      rw [h] at hq; exact .inl hq
     ·
      have := h q hq; exact .inr om_
    have hO6 := hO5.chg hc6 (fun q hq e => by
     rcases hf5 with h | h
     ·
      rw [h] at hq; exact hA.og q hq e
     ·
      have h1 := h q hq; have h2 := hA.blk.lt; have h3 : q = g := e; omega)
    have hr6 := hr5.chg hc6 (fun q hq e => hrg q hq e)
    have hA6 : MkrAt w6 g tv (.slice (some ra) rm rc) (.slice A7 m7 c7) (at_ + i) (kept) rs (os ++ cutL rs at_ (i + 1)) := ⟨hB6, hr6, by simpa [flatO, cutL_succ hr] using hO6⟩
    have hS1 : Chg (fun k => k = g ∨ ov2.ownBlock = some k) w2 w6 := hS1.trans hc6 (fun q _ h => .inl h)
    have hS : Chg (fun k => k = g ∨ ov2.ownBlock = some k) w2 w6 ∧ _ ∧ _ := ⟨hS1, mkr1 hB6.mem, mkr2 hB6.mem⟩
    refine ⟨hS, ?_⟩
    refine RH.done kr_ ?_
    skip
    exact ⟨.slice A7 m7 c7, Fr.ok, hA6, hS1, hf6⟩
   ·
    skip
    refine RS.st rfl (St.buildSlice rfl (bs1_op ⟨2, false, r, 0⟩)) de_ fun v24 w7 hR7 => ?_
    obtain ⟨gb, rfl, hgb, hBb, hxb⟩ := hR7
    have hzb := hxb.size
    have hA := hA.ext hxb
    have hS1 : Chg (fun k => k = g ∨ ov2.ownBlock = some k) w2 w7 := hS1.thenExt hxb
    have hS : Chg (fun k => k = g ∨ ov2.ownBlock = some k) w2 w7 ∧ _ ∧ _ := ⟨hS1, mkr1 hA.blk.mem, mkr2 hA.blk.mem⟩
    have hzS1 := hS1.size
    refine ⟨hS, ?_⟩
    refine RH.one 4 kr_ ?_
    refine RS.val rfl (Y.load1 Tryd.underlying27 rfl (mkr4 hA.blk.mem) rfl) de_ ⟨hS, ?_⟩
    refine RH.one 17 kr_ ?_
    refine RS.st rfl (St.append (m := 1) (news := opC ⟨2, false, r, 0⟩) Tryd.underlying27 Tryd.underlying27 ai_op rfl rfl hA.ops (Fw.Src.one hBb (opC_length _)) one_opC (by rw [flat_length opC_length]; omega)) de_ fun v25 w8 hR8 => ?_
    obtain ⟨hO5, hc5, hf5⟩ := hR8
    have hz5 := hc5.size
    have hB5 := hA.blk.chg hc5 (fun h => hA.og _ h rfl)
    have hr5 := hA.refs.chg hc5 (fun q hq h => hA.ro q hq h)
    have hrg := hA.rg
    obtain ⟨A7, m7, c7, rfl⟩ := hO5.lens
    have hS1 : Chg (fun k => k = g ∨ ov2.ownBlock = some k) w2 w8 := hS1.trans hc5 (fun q _ h => .inr h)
    have hS : Chg (fun k => k = g ∨ ov2.ownBlock = some k) w2 w8 ∧ _ ∧ _ := ⟨hS1, mkr1 hB5.mem, mkr2 hB5.mem⟩
    refine ⟨hS, ?_⟩
    refine RH.tk 18 hS rfl (fun wq hq => Y.nilCheck rfl) ?_
    refine RH.tk 19 hS rfl (fun wq hq => Y.fieldAddr fo_editmaker4 rfl) ?_
    refine RH.one 20 kr_ ?_
    refine RS.store rfl (g := g) (pre := [tv, .slice (some ra) rm rc, .int .i64 ((at_ + i : Nat) : Int), .int .i64 ((kept : Nat) : Int)]) (old := [ov2]) (post := []) (new := [.slice A7 m7 c7]) rfl rfl rfl rfl kr_ (by simpa [mkrC] using hB5) rfl (one1 rfl) (fun w9 hc9 hB9_ => ?_)
    have hB6 : Blk w9 g TM (mkrC tv (.slice (some ra) rm rc) (at_ + i) (kept) (.slice A7 m7 c7)) := by simpa [mkrC] using hB9_
    have hf6 : ∀ q, (Value.slice A7 m7 c7).ownBlock = some q → ov2.ownBlock = some q ∨ w2.heap.size ≤ q := fun q hq => by
     have := hS1.size
     rcases hf5 with h | h
     ·
      rw [h] at hq; exact .inl hq
     ·
      have := h q hq; exact .inr om_
    have hO6 := hO5.chg hc9 (fun q hq e => by
     rcases hf5 with h | h
     ·
      rw [h] at hq; exact hA.og q hq e
     ·
      have h1 := h q hq; have h2 := hA.blk.lt; have h3 : q = g := e; omega)
    have hr6 := hr5.chg hc9 (fun q hq e => hrg q hq e)
    have hA6 : MkrAt w9 g tv (.slice (some ra) rm rc) (.slice A7 m7 c7) (at_ + i) (kept) rs (os ++ cutL rs at_ (i + 1)) := ⟨hB6, hr6, by simpa [flatO, cutL_succ hr] using hO6⟩
    have hS1 : Chg (fun k => k = g ∨ ov2.ownBlock = some k) w2 w9 := hS1.trans hc9 (fun q _ h => .inl h)
    have hS : Chg (fun k => k = g ∨ ov2.ownBlock = some k) w2 w9 ∧ _ ∧ _ := ⟨hS1, mkr1 hB6.mem, mkr2 hB6.mem⟩
    refine ⟨hS, ?_⟩
    refine RH.done kr_ ?_
    skip
    exact ⟨.slice A7 m7 c7, Fr.ok, hA6, hS1, hf6⟩
  rintro u w10 hj10
  obtain ⟨hA3, hC3, hf3⟩ := hj10
  refine CW.region ?_
  refine WL.m rfl ?_
  refine WL.v (Y.nilCheck rfl) ?_
  refine WL.v (Y.fieldAddr fo_editmaker2 rfl) ?_
  refine WL.v (Y.load1 Tryd.underlying3 rfl (mkr2 hA3.blk.mem) rfl) ?_
  refine WL.v (Y.add rfl rfl o2_) ?_
  refine WL.v (Y.nilCheck rfl) ?_
  refine WL.v (Y.fieldAddr fo_editmaker2 rfl) ?_
  refine WL.store (g := g) (pre := [tv, .slice (some ra) rm rc]) (old := [.int .i64 ((at_ + i : Nat) : Int)]) (post := [.int .i64 (kept : Int), u]) (new := [.int .i64 (((at_ + i : Nat) : Int) + 1)]) rfl rfl rfl rfl kr_ (by simpa [mkrC] using hA3.blk) ln_ (one1 rfl) (fun w11 hc11 hB11_ => ?_)
  have hz11 := hc11.size
  have e : (((at_ + i : Nat) : Int) + 1) = ((at_ + (i + 1) : Nat) : Int) := by omega
  rw [e] at hB11_
  have hA4 : MkrAt w11 g tv (.slice (some ra) rm rc) u (at_ + (i + 1)) kept rs (os ++ cutL rs at_ (i + 1)) := ⟨hB11_, hA3.refs.chg hc11 (fun q hq h => hA3.rg q hq h), hA3.ops.chg hc11 (fun q hq h => hA3.og q hq h)⟩
  have hCn : Chg (fun k => k = g ∨ ov.ownBlock = some k) w w11 := (hC.trans hC3 (fun k hk h => by
   rcases h with h | h
   ·
    exact .inl h
   ·
    rcases hf k h with h | h
    ·
     exact .inr h
    ·
     omega)).trans hc11 (fun k _ h => .inl h)
  have hfn : ∀ q, u.ownBlock = some q → ov.ownBlock = some q ∨ w.heap.size ≤ q := fun q hq => by
   rcases hf3 q hq with h | h
   ·
    exact hf q h
   ·
    have := hC.size; exact .inr om_
  
  refine WL.nil (hK6 _ _ ?_); try clear hK6
  refine CW.region ?_
  refine WL.v (Y.add rfl rfl o2_) ?_
  refine WL.m rfl ?_
  refine WL.nil ?_
  exact ⟨(i + 1, u), by show ed.n - (i + 1) < ed.n - i; omega, Fr.ok, by show i + 1 ≤ ed.n; omega, hA4, hCn, hfn⟩
 refine CW.exit ?_
 refine ⟨_, rfl, ?_⟩
 obtain rfl : i = ed.n := by omega
 exact ⟨ov2, hA2, hC, hf⟩
set_option maxHeartbeats 1000000 in
theorem mput_any (tg rb ra : Nat) (ad : List Dig) (ns : List Nn) (g : Nat) (tv rv ov : Value) (at_ kept : Nat) (rs : List RefD) (os : List OpD) (ed : EdD) (w : World) (htv : tv = .pointer (some ⟨tg, 0, none⟩)) (hT : FtAt w tg rb ra ad ns) (hG : Fu.Good (Fw.els ns)) (hn : ns.length ≤ 400001) (hA : MkrAt w g tv rv ov at_ kept rs os) (h2 : ed.text.length ≤ 1000000) (h3 : os.length ≤ 1000000) : Calls Tryd.prog 32 #[.pointer (some ⟨g, 0, none⟩), .agg (edC ed).toArray] w (Ret fun _ w' => ∃ ov', MkrAt w' g tv rv ov' at_ kept rs (os ++ insOps (gapE (Fw.els ns) (kept : Int)) os.length ed.text) ∧ Chg (fun k => k = g ∨ ov.ownBlock = some k) w w' ∧ (∀ q, ov'.ownBlock = some q → ov.ownBlock = some q ∨ w.heap.size ≤ q)) := by
 obtain ⟨ir, hir, hzr, hsr⟩ := info_apiRef
 have hg0 := hA.blk.lt
 have hrl := hA.refs.lt
 have hbs := bs_size ed.text
 have hA0 := hA
 refine calls_of_CW 50 [] [(0, .pointer (some ⟨g, 0, none⟩)), (1, .agg (edC ed).toArray)] Tryd.func32 rfl rfl rfl (by simp) args2 ?_
 have hE : Ext w w := Chg.refl
 refine CW.sr fun K1 hK1 => ?_
 refine WL.box rfl rfl de_ fun g3 w1 hx1 hg3 hB3 => ?_
 have hlt3 := hB3.lt; have hz1 := hx1.size
 have hM3 := hB3.mem; have hz1 := hx1.size; have hE := hE.thenExt hx1
 refine WL.nil (hK1 _ _ ?_); try clear hK1
 refine CW.seq_to (X := Nat) (fun v => [(0, .pointer (some ⟨g, 0, none⟩)), (3, .pointer (some ⟨g3, 0, none⟩)), (4, .pointer (some ⟨v, 0, none⟩)), (5, .bool (gapE (Fw.els ns) (kept : Int)).2.1)]) (fun v w0 => Ext w1 w0 ∧ w1.heap.size ≤ v ∧ Blk w0 v TRf (refC (gapE (Fw.els ns) (kept : Int)).1)) ?_ ?_
 ·
  skip
  refine CW.held (fun wq => Ext w1 wq) kr_ 17 rfl fun w2 hS => ?_
  refine RH.tk 0 hS rfl (fun wq hq => Y.move rfl) ?_
  refine RH.tk 1 hS rfl (fun wq hq => Y.nilCheck rfl) ?_
  refine RH.tk 2 hS rfl (fun wq hq => Y.fieldAddr fo_editmaker0 rfl) ?_
  refine RH.tk 3 hS rfl (fun wq hq => Y.load1 Tryd.underlying54 rfl (by have h := mkr0 ((hA.ext hE).ext hq).blk.mem; rw [htv] at h; exact h) rfl) ?_
  refine RH.tk 4 hS rfl (fun wq hq => Y.move rfl) ?_
  refine RH.tk 5 hS rfl (fun wq hq => Y.nilCheck rfl) ?_
  refine RH.tk 6 hS rfl (fun wq hq => Y.fieldAddr fo_editmaker3 rfl) ?_
  refine RH.tk 7 hS rfl (fun wq hq => Y.load1 Tryd.underlying3 rfl (mkr3 ((hA.ext hE).ext hq).blk.mem) rfl) ?_
  refine RH.two 8 13 kr_ ?_ ?_
  ·
   skip
   refine RS.call rfl (fun _ _ h => by cases h) Tryd.func55 rfl rfl rfl (fgap_any tg rb ra ad ns (kept : Int) _ ((hT.ext hE).ext hS) hG hn) de_ fun v17 w3 hR3 => ?_
   obtain ⟨rfl, hxa⟩ := hR3
   have hS := hS.thenExt hxa
   have hzS := hS.size
   refine ⟨hS, ?_⟩
   refine RH.tk 9 hS rfl (fun wq hq => Y.move rfl) ?_
   refine RH.tk 10 hS rfl (fun wq hq => Y.extract rfl rfl) ?_
   refine RH.tk 11 hS rfl (fun wq hq => Y.extract rfl rfl) ?_
   refine RH.tk 12 hS rfl (fun wq hq => Y.extract rfl rfl) ?_
   refine RH.one 13 kr_ ?_
   refine RS.st rfl (St.allocM hir hzr rfl) de_ fun v4 w4 hR4 => ?_
   obtain ⟨g4, rfl, hg4, hB4, hxc⟩ := hR4
   have hzS := hS.size
   have hS := hS.thenExt hxc
   refine ⟨hS, ?_⟩
   refine RH.one 14 kr_ ?_
   refine RS.store rfl (g := g4) (pre := []) (old := refC RefD.zero) (post := []) (new := refC (gapE (Fw.els ns) (kept : Int)).1) rfl rfl rfl rfl (sz_apiRef _) (by simpa using hB4) (by simp only [refC_length]) (one_refC) (fun w5 hc5 hB5_ => ?_)
   have hB4 : Blk w5 g4 TRf (refC (gapE (Fw.els ns) (kept : Int)).1) := by simpa using hB5_
   have hS : Ext w1 w5 := hS.step hc5 (fun k h => by have h : k = g4 := h; omega)
   refine ⟨hS, ?_⟩
   refine RH.tk 15 hS rfl (fun wq hq => Y.assign rfl) ?_
   refine RH.tk 16 hS rfl (fun wq hq => Y.assign rfl) ?_
   refine RH.done kr_ ?_
   have hx6 := hS; have hz6 := hx6.size; have hE := hE.thenExt hx6; have hB3 := hB3.ext hx6
   exact ⟨g4, Fr.ok, hx6, by omega, hB4⟩
  ·
   skip
   refine RS.st rfl (St.allocM hir hzr rfl) de_ fun v4 w7 hR7 => ?_
   obtain ⟨g4, rfl, hg4, hB4, hxc⟩ := hR7
   have hzS := hS.size
   have hS := hS.thenExt hxc
   refine ⟨hS, ?_⟩
   refine RH.one 8 kr_ ?_
   refine RS.call rfl (fun _ _ h => by cases h) Tryd.func55 rfl rfl rfl (fgap_any tg rb ra ad ns (kept : Int) _ ((hT.ext hE).ext hS) hG hn) de_ fun v17 w8 hR8 => ?_
   obtain ⟨rfl, hxa⟩ := hR8
   have hS := hS.thenExt hxa
   have hzS := hS.size
   have hB4 := hB4.ext hxa
   refine ⟨hS, ?_⟩
   refine RH.tk 9 hS rfl (fun wq hq => Y.move rfl) ?_
   refine RH.tk 10 hS rfl (fun wq hq => Y.extract rfl rfl) ?_
   refine RH.tk 11 hS rfl (fun wq hq => Y.extract rfl rfl) ?_
   refine RH.tk 12 hS rfl (fun wq hq => Y.extract rfl rfl) ?_
   refine RH.one 14 kr_ ?_
   refine RS.store rfl (g := g4) (pre := []) (old := refC RefD.zero) (post := []) (new := refC (gapE (Fw.els ns) (kept : Int)).1) rfl rfl rfl rfl (sz_apiRef _) (by simpa using hB4) (by simp only [refC_length]) (one_refC) (fun w9 hc9 hB9_ => ?_)
   have hB4 : Blk w9 g4 TRf (refC (gapE (Fw.els ns) (kept : Int)).1) := by simpa using hB9_
   have hS : Ext w1 w9 := hS.step hc9 (fun k h => by have h : k = g4 := h; omega)
   refine ⟨hS, ?_⟩
   refine RH.tk 15 hS rfl (fun wq hq => Y.assign rfl) ?_
   refine RH.tk 16 hS rfl (fun wq hq => Y.assign rfl) ?_
   refine RH.done kr_ ?_
   have hx10 := hS; have hz10 := hx10.size; have hE := hE.thenExt hx10; have hB3 := hB3.ext hx10
   exact ⟨g4, Fr.ok, hx10, by omega, hB4⟩
 rintro u w11 hj11
 obtain ⟨g4, rfl⟩ : ∃ q, q = u := ⟨_, rfl⟩
 obtain ⟨hx11, hu, hB4⟩ := hj11
 have hz11 := hx11.size
 have hE := hE.thenExt hx11
 have hB3 := hB3.ext hx11
 have hg34 := hB3.lt
 refine CW.sr fun K2 hK2 => ?_
 refine WL.v (Y.fieldAddr fo_apiEdit2 rfl) ?_
 refine WL.v (Y.load1 Tryd.underlying9 rfl hB3.mem.apiEdit2 rfl) ?_
 refine WL.v (Y.len_string Tryd.underlying9 rfl) ?_
 refine WL.m rfl ?_
 refine WL.nil (hK2 _ _ ?_); try clear hK2
 refine CW.block ?_
 refine CW.loop (X := Nat × Value) (fun x => [(0, .pointer (some ⟨g, 0, none⟩)), (3, .pointer (some ⟨g3, 0, none⟩)), (4, .pointer (some ⟨g4, 0, none⟩)), (5, .bool (putS (gapE (Fw.els ns) (kept : Int)) x.1)), (23, .int .i64 ((bs ed.text).size : Int)), (24, .int .i64 (x.1 : Int))]) (fun x w0 => x.1 ≤ ed.text.length ∧ MkrAt w0 g tv rv x.2 at_ kept rs (os ++ (insOps (gapE (Fw.els ns) (kept : Int)) os.length ed.text).take x.1) ∧ Chg (fun k => k = g ∨ ov.ownBlock = some k) w w0 ∧ (∀ q, x.2.ownBlock = some q → ov.ownBlock = some q ∨ w.heap.size ≤ q) ∧ Blk w0 g3 TE (edC ed) ∧ Blk w0 g4 TRf (refC (putR (gapE (Fw.els ns) (kept : Int)) os.length x.1))) (fun x => ed.text.length - x.1) (0, ov) Fr.ok ⟨Nat.zero_le _, (by simpa using hA.ext hE), Ext.chg hE, (fun q h => .inl h), hB3, hB4⟩ ?_
 intro x w12 hl12
 obtain ⟨i, ov2⟩ := x
 obtain ⟨hi, hA2, hC, hf, hB3, hB4⟩ := hl12
 dsimp only at hi hA2 hf hB4 ⊢
 have hE : Ext w12 w12 := Chg.refl
 have hzC := hC.size
 refine CW.sr fun K3 hK3 => ?_
 refine WL.v (Y.lss rfl rfl) ?_
 refine WL.nil (hK3 _ _ ?_); try clear hK3
 refine CW.seq fun K4 hK4 => ?_
 (first | refine cd_ rfl ?_ ?_ | refine ce_ rfl ?_ ?_ | refine cn_ rfl ?_ ?_ | refine cb_ rfl ?_ ?_) <;> intro ht5
 ·
  -- then
  refine CW.skip ?_
  refine hK4 _ _ ?_; try clear hK4
  refine CW.seq fun K6 hK6 => ?_
  refine CW.block ?_
  refine CW.sr fun K7 hK7 => ?_
  refine WL.m rfl ?_
  refine WL.a rfl ?_
  refine WL.nil (hK7 _ _ ?_); try clear hK7
  obtain ⟨b, hb⟩ : ∃ b, ed.text[i]? = some b := ⟨_, List.getElem?_eq_getElem om_⟩
  have hib : i < (bs ed.text).size := by omega
  have hbG : (bs ed.text)[i] = b := by rw [bsG hib, hb]; rfl
  have hol : (os ++ (insOps (gapE (Fw.els ns) (kept : Int)) os.length ed.text).take i).length ≤ 2000000 := by rw [List.length_append, List.length_take, insOps_length]; omega
  have h3n : ¬ (g3 = g ∨ ov2.ownBlock = some g3) := fun h => by
   rcases h with h | h
   ·
    omega
   ·
    obtain ⟨_, _, h1⟩ := hA2.ops.kind h
    exact absurd (blk_kind h1 hB3) de_
  have h4n : ¬ (g4 = g ∨ ov2.ownBlock = some g4) := fun h => by
   rcases h with h | h
   ·
    omega
   ·
    obtain ⟨_, _, h1⟩ := hA2.ops.kind h
    exact absurd (blk_kind h1 hB4) de_
  refine CW.seq_to (X := Value) (fun v => [(0, .pointer (some ⟨g, 0, none⟩)), (3, .pointer (some ⟨g3, 0, none⟩)), (4, .pointer (some ⟨g4, 0, none⟩)), (23, .int .i64 ((bs ed.text).size : Int)), (24, .int .i64 (i : Int))]) (fun v w0 => MkrAt w0 g tv rv v at_ kept rs (os ++ (insOps (gapE (Fw.els ns) (kept : Int)) os.length ed.text).take (i + 1)) ∧ Chg (fun k => k = g ∨ ov2.ownBlock = some k) w12 w0 ∧ ∀ q, v.ownBlock = some q → ov2.ownBlock = some q ∨ w12.heap.size ≤ q) ?_ ?_
  ·
   skip
   refine CW.held (fun wq => Chg (fun k => k = g ∨ ov2.ownBlock = some k) w12 wq) kr_ 17 rfl fun w13 hx13 => ?_
   have hA := hA2.ext hx13
   have hS1 : Chg (fun k => k = g ∨ ov2.ownBlock = some k) w12 w13 := hx13.chg
   have hS := hS1
   refine RH.tk 0 hS rfl (fun wq hq => Y.move rfl) ?_
   refine RH.tk 1 hS rfl (fun wq hq => Y.move rfl) ?_
   refine RH.tk 2 hS rfl (fun wq hq => Y.nilCheck rfl) ?_
   refine RH.tk 3 hS rfl (fun wq hq => Y.fieldAddr fo_editmaker4 rfl) ?_
   refine RH.tk 5 hS rfl (fun wq hq => Y.move rfl) ?_
   refine RH.tk 6 hS rfl (fun wq hq => Y.load Tryd.underlying60 rfl ((hB4.chg hq h4n).mem) (sz_apiRef _) rfl) ?_
   refine RH.tk 7 hS rfl (fun wq hq => Y.fieldAddr fo_apiEdit2 rfl) ?_
   refine RH.tk 8 hS rfl (fun wq hq => Y.load1 Tryd.underlying9 rfl (hB3.chg hq h3n).mem.apiEdit2 rfl) ?_
   refine RH.tk 9 hS rfl (fun wq hq => Y.move rfl) ?_
   refine RH.tk 10 hS rfl (fun wq hq => Y.index_string (i := i) (s := bs ed.text) Tryd.underlying9 rfl rfl om_) ?_
   refine RH.tk 11 hS rfl (fun wq hq => Y.build rfl (bld_opF _ _ _ _)) ?_
   refine RH.two 4 12 kr_ ?_ ?_
   ·
    skip
    refine RS.val rfl (Y.load1 Tryd.underlying27 rfl (mkr4 hA.blk.mem) rfl) de_ ⟨hS, ?_⟩
    refine RH.one 12 kr_ ?_
    refine RS.st rfl (St.buildSlice rfl (bs1_op ⟨1, putS (gapE (Fw.els ns) (kept : Int)) i, putR (gapE (Fw.els ns) (kept : Int)) os.length i, (bs ed.text)[i]⟩)) de_ fun v39 w14 hR14 => ?_
    obtain ⟨gb, rfl, hgb, hBb, hxb⟩ := hR14
    have hzb := hxb.size
    have hA := hA.ext hxb
    have hS1 : Chg (fun k => k = g ∨ ov2.ownBlock = some k) w12 w14 := hS1.thenExt hxb
    have hS := hS1
    have hzS1 := hS1.size
    refine ⟨hS, ?_⟩
    refine RH.one 13 kr_ ?_
    refine RS.st rfl (St.append (m := 1) (news := opC ⟨1, putS (gapE (Fw.els ns) (kept : Int)) i, putR (gapE (Fw.els ns) (kept : Int)) os.length i, (bs ed.text)[i]⟩) Tryd.underlying27 Tryd.underlying27 ai_op rfl rfl hA.ops (Fw.Src.one hBb (opC_length _)) one_opC (by rw [flat_length opC_length]; omega)) de_ fun v40 w15 hR15 => ?_
    obtain ⟨hO5, hc5, hf5⟩ := hR15
    have hz5 := hc5.size
    have hB5 := hA.blk.chg hc5 (fun h => hA.og _ h rfl)
    have hr5 := hA.refs.chg hc5 (fun q hq h => hA.ro q hq h)
    have hrg := hA.rg
    obtain ⟨A7, m7, c7, rfl⟩ := hO5.lens
    have hS1 : Chg (fun k => k = g ∨ ov2.ownBlock = some k) w12 w15 := hS1.trans hc5 (fun q _ h => .inr h)
    have hS := hS1
    refine ⟨hS, ?_⟩
    refine RH.tk 14 hS rfl (fun wq hq => Y.nilCheck rfl) ?_
    refine RH.tk 15 hS rfl (fun wq hq => Y.fieldAddr fo_editmaker4 rfl) ?_
    refine RH.one 16 kr_ ?_
    refine RS.store rfl (g := g) (pre := [tv, rv, .int .i64 ((at_ : Nat) : Int), .int .i64 ((kept : Nat) : Int)]) (old := [ov2]) (post := []) (new := [.slice A7 m7 c7]) rfl rfl rfl rfl kr_ (by simpa [mkrC] using hB5) rfl (one1 rfl) (fun w16 hc16 hB16_ => ?_)
    have hB6 : Blk w16 g TM (mkrC tv (rv) (at_) (kept) (.slice A7 m7 c7)) := by simpa [mkrC] using hB16_
    have hf6 : ∀ q, (Value.slice A7 m7 c7).ownBlock = some q → ov2.ownBlock = some q ∨ w12.heap.size ≤ q := fun q hq => by
     have := hS1.size
     rcases hf5 with h | h
     ·
      rw [h] at hq; exact .inl hq
     ·
      have := h q hq; exact .inr om_
    have hO6 := hO5.chg hc16 (fun q hq e => by
     rcases hf5 with h | h
     ·
      rw [h] at hq; exact hA.og q hq e
     ·
      have h1 := h q hq; have h2 := hA.blk.lt; have h3 : q = g := e; omega)
    have hr6 := hr5.chg hc16 (fun q hq e => hrg q hq e)
    have hA6 : MkrAt w16 g tv (rv) (.slice A7 m7 c7) (at_) (kept) rs (os ++ (insOps (gapE (Fw.els ns) (kept : Int)) os.length ed.text).take (i + 1)) := ⟨hB6, hr6, by simpa [flatO, Go.Pl.take_succ (insOps_get hb), hbG] using hO6⟩
    have hS1 : Chg (fun k => k = g ∨ ov2.ownBlock = some k) w12 w16 := hS1.trans hc16 (fun q _ h => .inl h)
    have hS := hS1
    refine ⟨hS, ?_⟩
    refine RH.done kr_ ?_
    skip
    exact ⟨.slice A7 m7 c7, Fr.ok, hA6, hS1, hf6⟩
   ·
    skip
    refine RS.st rfl (St.buildSlice rfl (bs1_op ⟨1, putS (gapE (Fw.els ns) (kept : Int)) i, putR (gapE (Fw.els ns) (kept : Int)) os.length i, (bs ed.text)[i]⟩)) de_ fun v39 w17 hR17 => ?_
    obtain ⟨gb, rfl, hgb, hBb, hxb⟩ := hR17
    have hzb := hxb.size
    have hA := hA.ext hxb
    have hS1 : Chg (fun k => k = g ∨ ov2.ownBlock = some k) w12 w17 := hS1.thenExt hxb
    have hS := hS1
    have hzS1 := hS1.size
    refine ⟨hS, ?_⟩
    refine RH.one 4 kr_ ?_
    refine RS.val rfl (Y.load1 Tryd.underlying27 rfl (mkr4 hA.blk.mem) rfl) de_ ⟨hS, ?_⟩
    refine RH.one 13 kr_ ?_
    refine RS.st rfl (St.append (m := 1) (news := opC ⟨1, putS (gapE (Fw.els ns) (kept : Int)) i, putR (gapE (Fw.els ns) (kept : Int)) os.length i, (bs ed.text)[i]⟩) Tryd.underlying27 Tryd.underlying27 ai_op rfl rfl hA.ops (Fw.Src.one hBb (opC_length _)) one_opC (by rw [flat_length opC_length]; omega)) de_ fun v40 w18 hR18 => ?_
    obtain ⟨hO5, hc5, hf5⟩ := hR18
    have hz5 := hc5.size
    have hB5 := hA.blk.chg hc5 (fun h => hA.og _ h rfl)
    have hr5 := hA.refs.chg hc5 (fun q hq h => hA.ro q hq h)
    have hrg := hA.rg
    obtain ⟨A7, m7, c7, rfl⟩ := hO5.lens
    have hS1 : Chg (fun k => k = g ∨ ov2.ownBlock = some k) w12 w18 := hS1.trans hc5 (fun q _ h => .inr h)
    have hS := hS1
    refine ⟨hS, ?_⟩
    refine RH.tk 14 hS rfl (fun wq hq => Y.nilCheck rfl) ?_
    refine RH.tk 15 hS rfl (fun wq hq => Y.fieldAddr fo_editmaker4 rfl) ?_
    refine RH.one 16 kr_ ?_
    refine RS.store rfl (g := g) (pre := [tv, rv, .int .i64 ((at_ : Nat) : Int), .int .i64 ((kept : Nat) : Int)]) (old := [ov2]) (post := []) (new := [.slice A7 m7 c7]) rfl rfl rfl rfl kr_ (by simpa [mkrC] using hB5) rfl (one1 rfl) (fun w19 hc19 hB19_ => ?_)
    have hB6 : Blk w19 g TM (mkrC tv (rv) (at_) (kept) (.slice A7 m7 c7)) := by simpa [mkrC] using hB19_
    have hf6 : ∀ q, (Value.slice A7 m7 c7).ownBlock = some q → ov2.ownBlock = some q ∨ w12.heap.size ≤ q := fun q hq => by
     have := hS1.size
     rcases hf5 with h | h
     ·
      rw [h] at hq; exact .inl hq
     ·
      have := h q hq; exact .inr om_
    have hO6 := hO5.chg hc19 (fun q hq e => by
     rcases hf5 with h | h
     ·
      rw [h] at hq; exact hA.og q hq e
     ·
      have h1 := h q hq; have h2 := hA.blk.lt; have h3 : q = g := e; omega)
    have hr6 := hr5.chg hc19 (fun q hq e => hrg q hq e)
    have hA6 : MkrAt w19 g tv (rv) (.slice A7 m7 c7) (at_) (kept) rs (os ++ (insOps (gapE (Fw.els ns) (kept : Int)) os.length ed.text).take (i + 1)) := ⟨hB6, hr6, by simpa [flatO, Go.Pl.take_succ (insOps_get hb), hbG] using hO6⟩
    have hS1 : Chg (fun k => k = g ∨ ov2.ownBlock = some k) w12 w19 := hS1.trans hc19 (fun q _ h => .inl h)
    have hS := hS1
    refine ⟨hS, ?_⟩
    refine RH.done kr_ ?_
    skip
    exact ⟨.slice A7 m7 c7, Fr.ok, hA6, hS1, hf6⟩
  rintro u w20 hj20
  obtain ⟨hA3, hC3, hf3⟩ := hj20
  have hB3 := hB3.chg hC3 h3n
  have hB4 := hB4.chg hC3 h4n
  obtain ⟨A8, m8, c8, rfl⟩ := hA3.ops.lens
  refine CW.region ?_
  refine WL.m rfl ?_
  refine WL.v (Y.nilCheck rfl) ?_
  refine WL.v (Y.fieldAddr fo_editmaker4 rfl) ?_
  refine WL.v (Y.load1 Tryd.underlying27 rfl (mkr4 hA3.blk.mem) rfl) ?_
  refine WL.v (Y.len_slice Tryd.underlying27 rfl) ?_
  refine WL.v (Y.build rfl (bld_refP _ _)) ?_
  refine WL.store (g := g4) (pre := []) (old := refC (putR (gapE (Fw.els ns) (kept : Int)) os.length i)) (post := []) (new := refC ⟨true, Dig.zero, (m8 : Int)⟩) rfl rfl rfl rfl (sz_apiRef _) (by simpa using hB4) (by simp only [refC_length]) (one_refC) (fun w21 hc21 hB21_ => ?_)
  have hz21 := hc21.size
  have hlm : m8 = os.length + (i + 1) := by
   have h := (hA3.ops.len opC_length de_).1
   rw [List.length_append, List.length_take, insOps_length] at h
   omega
  have h4o := hB4
  have hB4 : Blk w21 g4 TRf (refC (putR (gapE (Fw.els ns) (kept : Int)) os.length (i + 1))) := by
   have e : putR (gapE (Fw.els ns) (kept : Int)) os.length (i + 1) = ⟨true, Dig.zero, (m8 : Int)⟩ := by rw [hlm]; rfl
   rw [e]; simpa using hB21_
  have hB3 := hB3.chg hc21 (fun h => by have h : g3 = g4 := h; omega)
  have hA4 := hA3.chg hc21 (fun h => by have h : g = g4 := h; omega) (fun q hq h => by have h : q = g4 := h; have := hrl q hq; omega) (fun q hq h => by
   have h : q = g4 := h
   subst h
   obtain ⟨_, _, h1⟩ := hA3.ops.kind hq
   exact absurd (blk_kind h1 h4o) de_)
  have hCn : Chg (fun k => k = g ∨ ov.ownBlock = some k) w w21 := (hC.trans hC3 (fun k hk h => by
   rcases h with h | h
   ·
    exact .inl h
   ·
    rcases hf k h with h | h
    ·
     exact .inr h
    ·
     omega)).trans hc21 (fun k hk h => by have h : k = g4 := h; exact False.elim om_)
  have hfn : ∀ q, (Value.slice A8 m8 c8).ownBlock = some q → ov.ownBlock = some q ∨ w.heap.size ≤ q := fun q hq => by
   rcases hf3 q hq with h | h
   ·
    exact hf q h
   ·
    have := hC.size; exact .inr om_
  
  refine WL.a rfl ?_
  refine WL.nil (hK6 _ _ ?_); try clear hK6
  refine CW.region ?_
  refine WL.v (Y.add rfl rfl o2_) ?_
  refine WL.m rfl ?_
  refine WL.nil ?_
  exact ⟨(i + 1, .slice A8 m8 c8), by show ed.text.length - (i + 1) < ed.text.length - i; omega, Fr.ok, by show i + 1 ≤ ed.text.length; omega, hA4, hCn, hfn, hB3, hB4⟩
 refine CW.exit ?_
 refine ⟨_, rfl, ?_⟩
 obtain rfl : i = ed.text.length := by omega
 rw [List.take_of_length_le (by rw [insOps_length]; exact Nat.le_refl _)] at hA2
 exact ⟨ov2, hA2, hC, hf⟩
end Go.Proofs.YtmehkigmnpjcjaaDoor
