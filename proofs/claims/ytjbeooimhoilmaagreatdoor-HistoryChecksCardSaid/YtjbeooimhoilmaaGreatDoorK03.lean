/- Parts of a proof: what its last text leans on. No condition. -/
import Derived.Test.YtjbeooimhoilmaaGreatDoorProg
import Derived.Great.BuildSlice
import Derived.ScopeJumps
import Derived.Defers
import Derived.Recover
import Derived.Lib.Bytealg
import Derived.Test.YtjbeooimhoilmaaGreatDoorK02
set_option linter.unusedSimpArgs false
set_option linter.unusedVariables false
/- What this program's types are: closed facts; equality at the api's types. No condition. -/
namespace Go.Proofs.YtjbeooimhoilmaaGreatDoor
open Go.RowKit Go.Fw
theorem sz_dig : (Tryz.prog.info? 43).map (·.size) = some 32 := by kernel_rfl
theorem sz_ref : (Tryz.prog.info? 68).map (·.size) = some 34 := by kernel_rfl
theorem sz_op : (Tryz.prog.info? 70).map (·.size) = some 37 := by kernel_rfl
theorem sz_u8 : ∀ w, (sizeOf 5).run Tryz.prog w = .ok 1 w := fun w => fw_sizeOf (by kernel_rfl)
theorem sz_int : (Tryz.prog.info? 3).map (·.size) = some 1 := by kernel_rfl
theorem sz_bool : (Tryz.prog.info? 4).map (·.size) = some 1 := by kernel_rfl
theorem sz_uint8 : (Tryz.prog.info? 5).map (·.size) = some 1 := by kernel_rfl
abbrev sz0_uint8 := @sz_uint8
abbrev sz0_apiDigest := @sz_dig
abbrev sz0_apiOp := @sz_op
theorem fo_apiRef0 : FieldOff Tryz.prog 68 0 0 := ⟨_, _, 1, Tryz.underlying68, rfl, sz_bool, by decide, rfl⟩
theorem fo_apiRef1 : FieldOff Tryz.prog 68 1 1 := ⟨_, _, 32, Tryz.underlying68, rfl, sz_dig, by decide, rfl⟩
theorem fo_apiRef2 : FieldOff Tryz.prog 68 2 33 := ⟨_, _, 1, Tryz.underlying68, rfl, sz_int, by decide, rfl⟩
theorem fo_apiOp0 : FieldOff Tryz.prog 70 0 0 := ⟨_, _, 1, Tryz.underlying70, rfl, sz_int, by decide, rfl⟩
theorem fo_apiOp1 : FieldOff Tryz.prog 70 1 1 := ⟨_, _, 1, Tryz.underlying70, rfl, sz_bool, by decide, rfl⟩
theorem fo_apiOp2 : FieldOff Tryz.prog 70 2 2 := ⟨_, _, 34, Tryz.underlying70, rfl, sz_ref, by decide, rfl⟩
theorem fo_apiOp3 : FieldOff Tryz.prog 70 3 36 := ⟨_, _, 1, Tryz.underlying70, rfl, sz_uint8, by decide, rfl⟩
theorem sz_string : (Tryz.prog.info? 9).map (·.size) = some 1 := by kernel_rfl
theorem sz_sDig : (Tryz.prog.info? 24).map (·.size) = some 1 := by kernel_rfl
theorem sz_sOp : (Tryz.prog.info? 46).map (·.size) = some 1 := by kernel_rfl
theorem fo_apiCommit0 : FieldOff Tryz.prog 48 0 0 := ⟨_, _, 1, Tryz.underlying48, rfl, sz_sDig, by decide, rfl⟩
theorem fo_apiCommit1 : FieldOff Tryz.prog 48 1 1 := ⟨_, _, 1, Tryz.underlying48, rfl, sz_string, by decide, rfl⟩
theorem fo_apiCommit2 : FieldOff Tryz.prog 48 2 2 := ⟨_, _, 1, Tryz.underlying48, rfl, sz_string, by decide, rfl⟩
theorem fo_apiCommit3 : FieldOff Tryz.prog 48 3 3 := ⟨_, _, 1, Tryz.underlying48, rfl, sz_sOp, by decide, rfl⟩
theorem sz_com : (Tryz.prog.info? 48).map (·.size) = some 4 := by kernel_rfl
theorem sz_apiCommit (pv ov : Value) (au no : ByteArray) : (Tryz.prog.info? 48).map (·.size) = some (comC pv au no ov).length := sz_com
theorem mixed : Tryz.prog.follows .mixedOrders = true := by kernel_rfl
theorem guard_dig : Tryz.prog.eqGuardType Tryz.prog.depth 43 = false := by kernel_rfl
theorem guard_ref : Tryz.prog.eqGuardType Tryz.prog.depth 68 = false := by kernel_rfl
theorem held_ref : Tryz.prog.stoodInHeld 68 = false := by kernel_rfl
theorem eqIn_dig (d : Nat) (a b : Dig) (w : World) : (Op.equalIn (d + 2) 43 (digV a) (digV b)).run Tryz.prog w = .ok (decide (a = b)) w := by
 have h := run_equalIn_bytes (P := Tryz.prog) w d 43 5 32 Tryz.underlying43 Tryz.underlying5 sz_u8 a.1 b.1 a.2 b.2
 have e : (a.1 == b.1) = decide (a = b) := by
  rw [Bool.eq_iff_iff]; simp [Subtype.ext_iff]
 rw [e] at h
 exact h
theorem part_dig {cs : Array Value} {off : Nat} {w : World} : (part 43 cs off).run Tryz.prog w = .ok (.agg (cs.extract off (off + 32))) w := by
 simp [part, fw_isAgg_yes Tryz.underlying43 rfl, fw_sizeOf sz_dig]
theorem part_one {P : Program} {t : TypeId} {d : TypeDesc} {cs : Array Value} {off : Nat} {v : Value} {w : World} (hT : P.underlying t = some d) (hd : notAgg d = true) (hv : cs[off]? = some v) : (part t cs off).run P w = .ok v w := by
 simp [part, fw_isAgg_no hT hd, hv]
theorem ref_own (r : RefD) : (refC r).toArray[0]? = some (.bool r.own) := by simp [refC]
theorem ref_c (r : RefD) : (refC r).toArray.extract 1 (1 + 32) = (digC r.c).toArray := by
 have := digC_length r.c
 simp [refC, List.drop, List.take_append, this]
theorem ref_n (r : RefD) : (refC r).toArray[33]? = some (.int .i64 r.n) := by simpa using refC_get33 r
theorem fields_ref : ∃ f0 f1 f2 : Field, (Tryz.prog.fieldsOf 68).toList = [f0, f1, f2] ∧ f0.name ≠ "_" ∧ f1.name ≠ "_" ∧ f2.name ≠ "_" ∧ f0.type = 4 ∧ f1.type = 43 ∧ f2.type = 3 ∧ f0.offset = 0 ∧ f1.offset = 1 ∧ f2.offset = 33 := by
 refine ⟨_, _, _, (by simp only [Program.fieldsOf, Tryz.underlying68]; rfl), ?_, ?_, ?_, rfl, rfl, rfl, rfl, rfl, rfl⟩ <;> decide
theorem ht_ref : Tryz.prog.underlying 68 = some (.struct (Tryz.prog.fieldsOf 68)) := by simp only [Program.fieldsOf, Tryz.underlying68]
theorem eqIn_ref (d : Nat) (a b : RefD) (w : World) : (Op.equalIn (d + 3) 68 (refV a) (refV b)).run Tryz.prog w = .ok (decide (a = b)) w := by
 rw [run_equalIn_struct (P := Tryz.prog) w (d + 2) _ _ _ ht_ref held_ref]
 obtain ⟨f0, f1, f2, hf, n0, n1, n2, t0, t1, t2, o0, o1, o2⟩ := fields_ref
 rw [hf]
 simp only [Op.eqFields, Sem.run_ite, Sem.run_pure, n0, n1, n2, t0, t1, t2, o0, o1, o2, ne_eq, not_false_eq_true, if_true, Sem.run_bind, part_one Tryz.underlying4 rfl (ref_own _), part_one Tryz.underlying3 rfl (ref_n _), part_dig, ref_c, Result.andThen_ok, eqIn_dig,
  run_equalIn_bool' w _ _ _ _ Tryz.underlying4, run_equalIn_int w _ _ _ _ _ _ Tryz.underlying3]
 obtain ⟨ao, ac, an⟩ := a
 obtain ⟨bo, bc', bn⟩ := b
 by_cases h0 : ao = bo <;> by_cases h1 : ac = bc' <;> by_cases h2 : an = bn <;> simp [h0, h1, h2]
theorem build_apiDigest (w : World) : (Instr.build 43 #[]).run Tryz.prog w = .ok (digV Dig.zero) w := by kernel_rfl
theorem build_apiRef (w : World) : (Instr.build 68 #[]).run Tryz.prog w = .ok (refV RefD.zero) w := by kernel_rfl
theorem sz_apiDigest (d : Dig) : (Tryz.prog.info? 43).map (·.size) = some (digC d).length := by rw [digC_length]; exact sz_dig
theorem sz_apiRef (r : RefD) : (Tryz.prog.info? 68).map (·.size) = some (refC r).length := by rw [refC_length]; exact sz_ref
theorem sz_apiOp (x : OpD) : (Tryz.prog.info? 70).map (·.size) = some (opC x).length := by rw [opC_length]; exact sz_op
theorem info_apiDigest : ∃ i : TypeInfo, Tryz.prog.info? 43 = some i ∧ i.zero = some (.agg (digC Dig.zero).toArray) ∧ i.size = 32 := by
 have h : (Tryz.prog.info? 43).map (fun i => (i.zero, i.size)) = some (some (.agg (digC Dig.zero).toArray), 32) := by kernel_rfl
 cases hi : Tryz.prog.info? 43 with
 | none => simp [hi] at h
 | some i => simp [hi] at h; exact ⟨i, rfl, h.1, h.2⟩
theorem as_apiDigest {n : NN} {Φ : Exit → Fr → World → Prop} {fr : Fr} {w : World} {ops : Array Oper} {rest : List Oper} {d : Nat} {x : Operand} {ty ty' : TypeId} {pos pos' : String} {aft aft' : Array Edge} {v : Dig}
  (hx : ev fr x = some (.agg (digC v).toArray)) (hxd : x ≠ .tmp d) (hd : d < n.1)
  (h : ∀ g w', Ext w w' → w.heap.size ≤ g → Blk w' g 43 (digC v) → WL Tryz.prog ops n Φ rest ((d, .pointer (some ⟨g, 0, none⟩)) :: fr) w') :
  WL Tryz.prog ops n Φ (⟨some d, .alloc 43, ty, pos, aft, none⟩ :: ⟨none, .store 43 (.tmp d) x, ty', pos', aft', none⟩ :: rest) fr w := by
 obtain ⟨i, hi, hz, hs⟩ := info_apiDigest
 exact WL.allocStore (zs := digC Dig.zero) hi hz rfl (by rw [hs, digC_length]) (by rw [digC_length, digC_length]) hx hxd rfl one_digC hd h
theorem info_apiRef : ∃ i : TypeInfo, Tryz.prog.info? 68 = some i ∧ i.zero = some (.agg (refC RefD.zero).toArray) ∧ i.size = 34 := by
 have h : (Tryz.prog.info? 68).map (fun i => (i.zero, i.size)) = some (some (.agg (refC RefD.zero).toArray), 34) := by kernel_rfl
 cases hi : Tryz.prog.info? 68 with
 | none => simp [hi] at h
 | some i => simp [hi] at h; exact ⟨i, rfl, h.1, h.2⟩
theorem info_apiOp : ∃ i : TypeInfo, Tryz.prog.info? 70 = some i ∧ i.zero = some (.agg (opC (⟨0, false, RefD.zero, 0⟩ : OpD)).toArray) ∧ i.size = 37 := by
 have h : (Tryz.prog.info? 70).map (fun i => (i.zero, i.size)) = some (some (.agg (opC (⟨0, false, RefD.zero, 0⟩ : OpD)).toArray), 37) := by kernel_rfl
 cases hi : Tryz.prog.info? 70 with
 | none => simp [hi] at h
 | some i => simp [hi] at h; exact ⟨i, rfl, h.1, h.2⟩
theorem as_apiOp {n : NN} {Φ : Exit → Fr → World → Prop} {fr : Fr} {w : World} {ops : Array Oper} {rest : List Oper} {d : Nat} {x : Operand} {ty ty' : TypeId} {pos pos' : String} {aft aft' : Array Edge} {v : OpD}
  (hx : ev fr x = some (.agg (opC v).toArray)) (hxd : x ≠ .tmp d) (hd : d < n.1)
  (h : ∀ g w', Ext w w' → w.heap.size ≤ g → Blk w' g 70 (opC v) → WL Tryz.prog ops n Φ rest ((d, .pointer (some ⟨g, 0, none⟩)) :: fr) w') :
  WL Tryz.prog ops n Φ (⟨some d, .alloc 70, ty, pos, aft, none⟩ :: ⟨none, .store 70 (.tmp d) x, ty', pos', aft', none⟩ :: rest) fr w := by
 obtain ⟨i, hi, hz, hs⟩ := info_apiOp
 exact WL.allocStore (zs := opC (⟨0, false, RefD.zero, 0⟩ : OpD)) hi hz rfl (by rw [hs, opC_length]) (by rw [opC_length, opC_length]) hx hxd rfl one_opC hd h
section Y
variable {n : NN} {fr : Fr} {w : World} {ty : TypeId} {x y : Operand} {t' : TypeId}
theorem Y.eql_apiDigest {a b : Dig} (hx : ev fr x = some (digV a)) (hy : ev fr y = some (digV b)) : Yw Tryz.prog n fr (.binOp .eql 43 x y t') ty w (.bool (decide (a = b))) w :=
 Y.bin hx hy (run_eqGuard_agg w _ _ _ _ _ _ guard_dig) (by rw [run_eql_struct, eqIn_dig 9998]; rfl)
theorem Y.neq_apiDigest {a b : Dig} (hx : ev fr x = some (digV a)) (hy : ev fr y = some (digV b)) : Yw Tryz.prog n fr (.binOp .neq 43 x y t') ty w (.bool (!decide (a = b))) w :=
 Y.bin hx hy (run_eqGuard_agg w _ _ _ _ _ _ guard_dig) (by rw [run_neq_struct, eqIn_dig 9998]; rfl)
theorem Y.eql_apiRef {a b : RefD} (hx : ev fr x = some (refV a)) (hy : ev fr y = some (refV b)) : Yw Tryz.prog n fr (.binOp .eql 68 x y t') ty w (.bool (decide (a = b))) w :=
 Y.bin hx hy (run_eqGuard_agg w _ _ _ _ _ _ guard_ref) (by rw [run_eql_struct, eqIn_ref 9997]; rfl)
theorem Y.neq_apiRef {a b : RefD} (hx : ev fr x = some (refV a)) (hy : ev fr y = some (refV b)) : Yw Tryz.prog n fr (.binOp .neq 68 x y t') ty w (.bool (!decide (a = b))) w :=
 Y.bin hx hy (run_eqGuard_agg w _ _ _ _ _ _ guard_ref) (by rw [run_neq_struct, eqIn_ref 9997]; rfl)
end Y
end Go.Proofs.YtjbeooimhoilmaaGreatDoor
/- Bytes that are put behind bytes of our own; the closed facts for it. No condition. -/
namespace Go.Fw
open Go.RowKit
def AppB (e : TypeId) (w : World) (v : Value) (xs : List UInt8) (w' : World) (v' : Value) (ys : List UInt8) : Prop :=
 Own w' e 1 v' (bytesC (xs ++ ys)) ∧ Chg (fun g => v.ownBlock = some g) w w' ∧ (v'.ownBlock = v.ownBlock ∨ ∀ g, v'.ownBlock = some g → w.heap.size ≤ g)
section
variable {e : TypeId} {w w1 w2 : World} {v v1 v2 : Value} {xs ys zs : List UInt8} {g : Nat} {t : TypeId} {cs : List Value} {a : Addr}
theorem AppB.refl (h : Own w e 1 v (bytesC xs)) : AppB e w v xs w v [] := ⟨by simpa using h, Chg.refl, .inl rfl⟩
theorem AppB.trans (h : AppB e w v xs w1 v1 ys) (k : AppB e w1 v1 (xs ++ ys) w2 v2 zs) : AppB e w v xs w2 v2 (ys ++ zs) := by
 obtain ⟨h1, h2, h3⟩ := h
 obtain ⟨k1, k2, k3⟩ := k
 refine ⟨by rw [← List.append_assoc]; exact k1, h2.trans k2 fun i hi hh => ?_, ?_⟩
 ·
  rcases h3 with h3 | h3
  ·
   rw [← h3]; exact hh
  ·
   have := h3 i hh; omega
 ·
  rcases k3 with k3 | k3
  ·
   rcases h3 with h3 | h3
   ·
    exact .inl (k3.trans h3)
   ·
    exact .inr fun g hg => h3 g (by rw [← k3]; exact hg)
  ·
   exact .inr fun g hg => Nat.le_trans h2.size (k3 g hg)
theorem AppB.extL (h : Ext w w1) (k : AppB e w1 v xs w2 v2 ys) : AppB e w v xs w2 v2 ys := by
 obtain ⟨k1, k2, k3⟩ := k
 refine ⟨k1, (h.chg).trans k2 fun i _ hh => hh, ?_⟩
 rcases k3 with k3 | k3
 ·
  exact .inl k3
 ·
  exact .inr fun g hg => Nat.le_trans h.size (k3 g hg)
theorem AppB.extR (h : AppB e w v xs w1 v1 ys) (k : Ext w1 w2) : AppB e w v xs w2 v1 ys := ⟨h.1.ext k, h.2.1.thenExt k, h.2.2⟩
theorem AppB.nilExt (h : AppB e w (.slice none 0 0) xs w1 v1 ys) : Ext w w1 := h.2.1.toExt fun i _ hh => by simp [Value.ownBlock] at hh
theorem AppB.nilOwn (h : AppB e w (.slice none 0 0) [] w1 v1 ys) : Own w1 e 1 v1 (bytesC ys) := by simpa using h.1
theorem AppB.fresh (h : AppB e w (.slice none 0 0) xs w1 v1 ys) : ∀ g, v1.ownBlock = some g → w.heap.size ≤ g := by
 rcases h.2.2 with h | h
 ·
  intro g hg; rw [h] at hg; simp [Value.ownBlock] at hg
 ·
  exact h
theorem AppB.blk (h : AppB e w v xs w1 v1 ys) (hb : Blk w g t cs) (hn : v.ownBlock ≠ some g) : Blk w1 g t cs := hb.chg h.2.1 hn
theorem AppB.away (h : AppB e w v xs w1 v1 ys) (hg : g < w.heap.size) (hn : v.ownBlock ≠ some g) : v1.ownBlock ≠ some g := by
 rcases h.2.2 with h | h
 ·
  rw [h]; exact hn
 ·
  intro e; have := h g e; omega
theorem AppB.old {w0 : World} (h : AppB e w v xs w1 v1 ys) (hx : Ext w0 w) (hf : ∀ g, v.ownBlock = some g → w0.heap.size ≤ g) : Ext w0 w1 :=
 (hx.chg (S := fun g => v.ownBlock = some g)).trans h.2.1 (fun _ _ hh => hh) |>.toExt fun i hi hh => by have := hf i hh; omega
end
section
variable {P : Program} {n : NN} {fr : Fr} {w : World} {ty : TypeId}
theorem Y.or_k {x y : Operand} {k : IntKind} {p q : Int} {t t' : TypeId} {r : Int} (hx : ev fr x = some (.int k p)) (hy : ev fr y = some (.int k q)) (hr : k.wrap ((BitVec.ofInt k.bits p ||| BitVec.ofInt k.bits q).toNat : Int) = r) : Yw P n fr (.binOp .or t x y t') ty w (.int k r) w :=
 Y.bin hx hy (by simp [eqGuard_at_int]) (by
  have e : binOp .or t (.int k p) (.int k q) = pure (.int k r) := by simp only [binOp, ne_eq, not_true_eq_false, if_false, Op.intBits, hr]
  rw [e]; rfl)
theorem Y.shr {x y : Operand} {k k' : IntKind} {p q r : Int} {t t' : TypeId} (hx : ev fr x = some (.int k p)) (hy : ev fr y = some (.int k' q)) (hq : 0 ≤ q) (hr : p.fdiv (2 ^ (min q.toNat k.bits)) = r) : Yw P n fr (.binOp .shr t x y t') ty w (.int k r) w :=
 Y.bin hx hy (by simp [eqGuard_at_int]) (by simp [binOp, Op.shift, Int.not_lt.2 hq, hr])
theorem St.app {s x : Operand} {v xv : Value} {t u e e' : TypeId} {b : Nat} {xs ys : List UInt8} {m : Nat}
  (ht : P.underlying t = some (.slice e)) (hud : P.underlying u = some (.slice e')) (hi : AppInfo P e 1 b) (hs : ev fr s = some v) (hx : ev fr x = some xv)
  (hown : Own w e 1 v (bytesC xs)) (hsrc : Src P w 1 xv m (bytesC ys)) (hroom : (xs.length + m) * b ≤ 140737488355328) :
  St P n fr (.call { callee := .builtin .append, args := #[s, x], argTypes := #[t, u] }) ty w (fun v' w' => AppB e w v xs w' v' ys) := by
 intro a o' ho hty ha
 obtain ⟨v', w', hr, hR⟩ := St.append (n := n) (ty := ty) ht hud hi hs hx hown hsrc one_bytesC (by simpa [bytesC_length] using hroom) a o' ho hty ha
 exact ⟨v', w', hr, by rw [bytesC_append]; exact hR.1, hR.2.1, hR.2.2⟩
theorem St.appS {s x : Operand} {v : Value} {str : ByteArray} {t u e : TypeId} {b : Nat} {xs : List UInt8}
  (ht : P.underlying t = some (.slice e)) (hud : P.underlying u = some .string) (hi : AppInfo P e 1 b) (hs : ev fr s = some v) (hx : ev fr x = some (.string str))
  (hown : Own w e 1 v (bytesC xs)) (hroom : (xs.length + str.size) * b ≤ 140737488355328) :
  St P n fr (.call { callee := .builtin .append, args := #[s, x], argTypes := #[t, u] }) ty w (fun v' w' => AppB e w v xs w' v' str.toList) := by
 intro a o' ho hty ha
 obtain ⟨v', w', hr, hR⟩ := St.appendS (n := n) (ty := ty) ht hud hi hs hx hown (by simpa [bytesC_length] using hroom) a o' ho hty ha
 exact ⟨v', w', hr, by rw [bytesC_append]; exact hR.1, hR.2.1, hR.2.2⟩
theorem Src.own {e : TypeId} {v : Value} {ys : List UInt8} (h : Own w e 1 v (bytesC ys)) : Src P w 1 v ys.length (bytesC ys) := by
 obtain ⟨A, n, c, rfl⟩ := h.lens
 obtain ⟨hm, hn, hl, _⟩ := h.mem A n c rfl
 have : n = ys.length := by rw [bytesC_length] at hl; omega
 subst this
 exact Src.slice (by simpa using hl) hm
theorem Src.arr {a : Addr} {ys : List UInt8} {c : Nat} (h : Mem w a (bytesC ys)) : Src P w 1 (.slice (some a) ys.length c) ys.length (bytesC ys) := Src.slice (by rw [bytesC_length]; omega) fun _ => ⟨a, rfl, h⟩
end
end Go.Fw
namespace Go.Proofs.YtjbeooimhoilmaaGreatDoor
open Go.RowKit Go.Fw
theorem ai_u8 : AppInfo Tryz.prog 5 1 1 := by
 have h : (Tryz.prog.info? 5).map (fun i => (i.size, i.bytes, i.zero)) = some (1, 1, some (.int .u8 0)) := by kernel_rfl
 obtain ⟨i, hi, h⟩ := Option.map_eq_some_iff.1 h
 injection h with h1 h2
 injection h2 with h2 h3
 exact ⟨i, _, hi, h3, h1, rfl, h2, by decide, by decide⟩
theorem bs1 (b : Int) (w : World) : (Instr.buildSlice 91 1 [(0, Value.int .u8 b)].toArray).run Tryz.prog w = .ok (.slice (some ⟨w.heap.size, 0, none⟩) 1 1) (w.alloc (.cells [Value.int .u8 b].toArray 5)) := by
 obtain ⟨i, z, hi, hz, hk, hzs, hb, _⟩ := ai_u8
 obtain ⟨zc, hzc⟩ : ∃ c, z.cells = #[c] := by
  match h : z.cells with
  | ⟨[]⟩ => simp [h] at hzs
  | ⟨[c]⟩ => exact ⟨c, rfl⟩
  | ⟨_ :: _ :: _⟩ => simp [h] at hzs
 have hr1 : Array.range 1 = #[0] := by decide
 have hc : (Value.int .u8 b).cells = #[Value.int .u8 b] := rfl
 simp [Instr.buildSlice, run_underlying Tryz.underlying91, sizeOf, typeInfo, hi, hk, zeroValue, hz, hzc, Instr.fill, newRow, hr1, hc]
end Go.Proofs.YtjbeooimhoilmaaGreatDoor
namespace Go.Fw
open Go.RowKit
theorem Src.dig {P : Program} {w : World} {a : Addr} {d : Dig} (h : Mem w a (digC d)) : Src P w 1 (.slice (some a) 32 32) 32 (bytesC d.1) := Src.slice (by rw [bytesC_length, d.2]) fun _ => ⟨a, rfl, h⟩
end Go.Fw
namespace Go.Fw
open Go.RowKit
theorem run_bs1 {P : Program} {t e : TypeId} {ie : TypeInfo} {z : Value} {v : Value} {cs : List Value} (hu : P.underlying t = some (.slice e)) (hi : P.info? e = some ie) (hz : ie.zero = some z) (h0 : 0 < ie.size) (hsm : ie.size ≤ 16777216) (hv : v.cells = cs.toArray) (hl : cs.length = ie.size) (w : World) :
  (Instr.buildSlice t 1 [(0, v)].toArray).run P w = .ok (.slice (some ⟨w.heap.size, 0, none⟩) 1 1) (w.alloc (.cells cs.toArray e)) := by
 refine run_buildSlice w t e 1 _ _ ie z hu hi hz (by omega) (by omega) ?_
 have h := Go.Great.fill_whole (s := ie.size) h0 [v] ((Array.range (1 * ie.size)).map (z.cells[· % z.cells.size]!)) (by intro u hu; simp at hu; subst hu; rw [hv]; simpa using hl) (by simp)
 simpa [hv] using h
theorem flat_length {α : Type} {enc : α → List Value} {k : Nat} (he : ∀ x, (enc x).length = k) : ∀ xs : List α, ((xs.map enc).flatten).length = xs.length * k
 | [] => by simp
 | x :: xs => by simp only [List.map_cons, List.flatten_cons, List.length_append, he, flat_length he xs, List.length_cons, Nat.succ_mul]; omega
theorem flat_at {α : Type} {enc : α → List Value} {k : Nat} (he : ∀ x, (enc x).length = k) : ∀ (xs : List α) (i : Nat) (x : α), xs[i]? = some x → ∀ j v, (enc x)[j]? = some v → ((xs.map enc).flatten)[i * k + j]? = some v
 | [], i, x, h, _, _, _ => by simp at h
 | y :: xs, 0, x, h, j, v, hv => by
  simp at h; subst h
  have hj : j < (enc y).length := (List.getElem?_eq_some_iff.1 hv).1
  simp only [List.map_cons, List.flatten_cons, Nat.zero_mul, Nat.zero_add]
  rw [List.getElem?_append_left hj]; exact hv
 | y :: xs, i + 1, x, h, j, v, hv => by
  have h' : xs[i]? = some x := by simpa using h
  have := flat_at he xs i x h' j v hv
  simp only [List.map_cons, List.flatten_cons]
  rw [List.getElem?_append_right (by rw [he, Nat.succ_mul]; omega), he, show (i + 1) * k + j - k = i * k + j by rw [Nat.succ_mul]; omega]
  exact this
theorem Own.sl {α : Type} {w : World} {e : TypeId} {k : Nat} {v : Value} {enc : α → List Value} {xs : List α} (h : Own w e k v ((xs.map enc).flatten)) (he : ∀ x, (enc x).length = k) (hk : 0 < k) : Sl w enc k v xs := by
 obtain ⟨A, m, c, rfl⟩ := h.lens
 obtain ⟨hm, hn, hl, hmc, hcm⟩ := h.mem A m c rfl
 rw [flat_length he] at hl
 have hlm : xs.length = m := Nat.eq_of_mul_eq_mul_right hk hl
 refine ⟨A, m, c, rfl, hlm, hmc, hcm, fun i x hi => ?_⟩
 have hi' := (List.getElem?_eq_some_iff.1 hi).1
 obtain ⟨a, rfl, hM⟩ := hm (by omega)
 refine ⟨a, rfl, hM.sub (i * k) fun j v hj => flat_at he xs i x hi j v hj⟩
theorem Src.one {P : Program} {w : World} {g k : Nat} {t : TypeId} {cs : List Value} (h : Blk w g t cs) (hl : cs.length = k) : Src P w k (.slice (some ⟨g, 0, none⟩) 1 1) 1 cs := Src.slice (by omega) fun _ => ⟨_, rfl, h.mem⟩
end Go.Fw
namespace Go.Proofs.YtjbeooimhoilmaaGreatDoor
open Go.RowKit Go.Fw
theorem ai_dig : AppInfo Tryz.prog 43 32 32 := by
 have h : (Tryz.prog.info? 43).map (fun i => (i.size, i.bytes, i.zero)) = some (32, 32, some (.agg (digC Dig.zero).toArray)) := by kernel_rfl
 obtain ⟨i, hi, h⟩ := Option.map_eq_some_iff.1 h
 injection h with h1 h2
 injection h2 with h2 h3
 exact ⟨i, _, hi, h3, h1, by show (digC Dig.zero).toArray.size = 32; simp [digC_length], h2, by decide, by decide⟩
theorem ai_op : AppInfo Tryz.prog 70 37 72 := by
 have h : (Tryz.prog.info? 70).map (fun i => (i.size, i.bytes, i.zero)) = some (37, 72, some (.agg (opC ⟨0, false, RefD.zero, 0⟩).toArray)) := by kernel_rfl
 obtain ⟨i, hi, h⟩ := Option.map_eq_some_iff.1 h
 injection h with h1 h2
 injection h2 with h2 h3
 exact ⟨i, _, hi, h3, h1, by show (opC _).toArray.size = 37; simp [opC_length], h2, by decide, by decide⟩
theorem bs1_dig (d : Dig) (w : World) : (Instr.buildSlice 24 1 [(0, digV d)].toArray).run Tryz.prog w = .ok (.slice (some ⟨w.heap.size, 0, none⟩) 1 1) (w.alloc (.cells (digC d).toArray 43)) := by
 obtain ⟨i, z, hi, hz, hk, _⟩ := ai_dig
 exact run_bs1 Tryz.underlying24 hi hz (by omega) (by omega) rfl (by rw [digC_length, hk]) w
abbrev flatD (ps : List Dig) : List Value := (ps.map digC).flatten
end Go.Proofs.YtjbeooimhoilmaaGreatDoor
namespace Go.Fw
theorem one1 {v : Value} (h : v.oneCell' = true) : ∀ u ∈ [v], u.oneCell' = true := by intro u hu; simp at hu; subst hu; exact h
end Go.Fw
namespace Go.Proofs.YtjbeooimhoilmaaGreatDoor
open Go.RowKit Go.Fw
theorem u8_of (n : Nat) : IntKind.u8.wrap (n : Int) = ((UInt8.ofNat n).toNat : Int) := by simp [IntKind.wrap, IntKind.bits, IntKind.signed]
theorem Blk.src1 {w : World} {g : Nat} {b : UInt8} (h : Blk w g 5 [Value.int .u8 (b.toNat : Int)]) : Src Tryz.prog w 1 (.slice (some ⟨g, 0, none⟩) 1 1) 1 (bytesC [b]) := Src.slice (by rfl) fun _ => ⟨_, rfl, h.mem⟩
end Go.Proofs.YtjbeooimhoilmaaGreatDoor
/- Calls that may panic; results that lie in cells; stores and loads in held regions; slices of slices. No condition; no program. -/
namespace Go.Fw
open Go.RowKit
section
variable {P : Program} {n : NN} {Φ : Exit → Fr → World → Prop} {fr : Fr} {w : World}
theorem Y.nilCheck {x : Operand} {ty : TypeId} {a : Addr} (hx : ev fr x = some (.pointer (some a))) : Yw P n fr (.nilCheck x) ty w (.pointer (some a)) w := fun b o' ho _ ha => by
 simp [execOp, ho, ha.ev hx]
theorem Y.slice_sl {x lo hi : Operand} {t e ty : TypeId} {a : Addr} {m c k i j : Nat} {ki kj : IntKind} (hT : P.underlying t = some (.slice e)) (hx : ev fr x = some (.slice (some a) m c)) (hlo : ev fr lo = some (.int ki (i : Int))) (hhi : ev fr hi = some (.int kj (j : Int)))
  (hS : (P.info? e).map (·.size) = some k) (h1 : i ≤ j) (h2 : j ≤ c) : Yw P n fr (.slice t x (some lo) (some hi) none) ty w (.slice (some (if c = i then a else a.add (i * k))) (j - i) (c - i)) w := fun b o' ho _ ha => by
 have e1 : (0 : Int) ≤ (i : Int) := by omega
 have e2 : (0 : Int) ≤ (j : Int) := by omega
 simp [execOp, ho, ha.ev hx, ha.ev hlo, ha.ev hhi, Instr.sliceAt, Instr.slice, run_underlying hT, Instr.sliceBounds, Instr.sliceBound, asIntOf, e1, e2, h1, h2, fw_sizeOf hS]
 split <;> rfl
variable {ops : Array Oper} {S : World → Prop} {fuel : Nat} {listed : Array Bool}
theorem RS.val {i d : Nat} {o : Op} {ty : TypeId} {pos : String} {aft : Array Edge} {v : Value}
  (hi : ops[i]? = some ⟨some d, o, ty, pos, aft, none⟩) (hy : Yw P n fr o ty w v w) (hd : d < n.1)
  (h : S w ∧ RH P ops S n Φ fuel (listed.setIfInBounds i true) ((d, v) :: fr) w) : RS P ops S n Φ fuel listed i fr w := fun a ha => by
 have hr := hy a ⟨some d, o, ty, pos, aft, none⟩ rfl rfl ha
 unfold wpOp
 rw [hi]
 simp only [Region.wanted, if_true]
 refine .inl ?_
 unfold Oper.wp
 rw [hr]
 exact ⟨h.1, h.2 _ (ha.put hd v)⟩
theorem RS.store {i : Nat} {t e : TypeId} {x y : Operand} {ty : TypeId} {pos : String} {aft : Array Edge} {v : Value} {g : Nat} {pre old post new : List Value} {A : Addr}
  (hi : ops[i]? = some ⟨none, .store t x y, ty, pos, aft, none⟩)
  (hx : ev fr x = some (.pointer (some A))) (hA : A = ⟨g, pre.length, none⟩) (hy : ev fr y = some v) (hv : v.cells = new.toArray) (hS : (P.info? t).map (·.size) = some new.length)
  (hb : Blk w g e (pre ++ old ++ post)) (hl : new.length = old.length) (h1 : ∀ u ∈ new, u.oneCell' = true)
  (h : ∀ w', Chg (· = g) w w' → Blk w' g e (pre ++ new ++ post) → S w' ∧ RH P ops S n Φ fuel (listed.setIfInBounds i true) fr w') : RS P ops S n Φ fuel listed i fr w := fun a ha => by
 obtain ⟨w', hst, hc, hb'⟩ := run_storeCells_blk (P := P) hb hl h1
 have hrun : (execOp a.eval ⟨none, .store t x y, ty, pos, aft, none⟩).run P w = .ok .skip w' := by
  simp [execOp, ha.ev hx, ha.ev hy, Instr.storeAt, Instr.sureAddr, storeVar, fw_sizeOf hS, hv, hA, hst]
 obtain ⟨h1, h2⟩ := h w' hc hb'
 unfold wpOp
 rw [hi]
 simp only [Region.wanted, if_true]
 refine .inl ?_
 unfold Oper.wp
 rw [hrun]
 exact ⟨h1, h2 _ ha⟩
@[reducible] def DoneG (D : Fr → World → Prop) (S : List PanicEntry → World → Prop) : Exit → Fr → World → Prop
 | .normal, fr, w => D fr w
 | .ret, fr, w => D fr w
 | .panic ch, _, w => S ch w
 | _, _, _ => False
theorem calls_of_CWG {f : FuncId} {fn : Func} {c : Code} {args : List Value} {R : Value → World → Prop} {S : List PanicEntry → World → Prop} (m : Nat) (D : Fr → World → Prop) (fr0 : Fr)
  (hf : P.funcs[f]? = some fn) (hb : fn.body = some c) (hm : fn.ntmps = m) (hr : ∀ a fr w, Rep (m, [], none) a fr → D fr w → ∃ v, (results fn a.tmps).run P w = .ok v w ∧ R v w)
  (hsz : args.length ≤ m) (hargs : ∀ t v, fr0.get t = some v → args[t]? = some v)
  (h : CW P c (m, [], none) (DoneG D S) fr0 w) : Calls P f args.toArray w (RetOr R S) := by
 refine calls_of_wp hf hb ?_
 have hrep : Rep (m, [], none) { tmps := args.toArray ++ Array.replicate (fn.ntmps - args.toArray.size) undef, defers := [] } fr0 := by
  refine ⟨by simp [hm]; omega, rfl, fun t v hv => ?_⟩
  have h1 := hargs t v hv
  have hlt : t < args.length := (List.getElem?_eq_some_iff.1 h1).1
  simpa [Array.getElem?_append, hlt] using (List.getElem?_eq_some_iff.1 h1).2
 refine wp_mono ((CW.plain rfl).1 h _ hrep) ?_
 rintro e a' w' ⟨fr', hf', hp⟩
 cases e with
 | normal => obtain ⟨v, hv, hR⟩ := hr _ _ _ hf' hp; exact ⟨hf'.defers, v, hv, hR⟩
 | ret => obtain ⟨v, hv, hR⟩ := hr _ _ _ hf' hp; exact ⟨hf'.defers, v, hv, hR⟩
 | exit id => exact hp
 | goto l => exact hp
 | panic ch => exact ⟨hf'.defers, hp⟩
 | outgrown => exact hp.elim
@[reducible] def Cell1 (t m : Nat) (R : Value → World → Prop) (fr : Fr) (w : World) : Prop := ∃ a cs, fr.get t = some (.pointer (some a)) ∧ Mem w a cs ∧ cs.length = m ∧ R (.agg cs.toArray) w
theorem res_cell {fn : Func} {a : Act} {t m : Nat} {ty : TypeId} {d : TypeDesc} {R : Value → World → Prop} (hr : fn.results = #[.cell t ty]) (hT : P.underlying ty = some d) (hd : notAgg d = false) (hS : (P.info? ty).map (·.size) = some m)
  {fr : Fr} {w : World} (ha : Rep n a fr) (hD : Cell1 t m R fr w) : ∃ v, (results fn a.tmps).run P w = .ok v w ∧ R v w := by
 obtain ⟨p, cs, hp, hm, hl, hR⟩ := hD
 have h1 := run_loadVarA (P := P) hT hd (by rw [hl]; exact hS) hm
 have e := ha.get t _ hp
 refine ⟨_, ?_, hR⟩
 simp [results, hr, e, asAddr, h1]
theorem calls_of_CWc_or {f : FuncId} {fn : Func} {c : Code} {args : List Value} {R : Value → World → Prop} {S : List PanicEntry → World → Prop} (m t k : Nat) (fr0 : Fr) {ty : TypeId} {d : TypeDesc}
  (hf : P.funcs[f]? = some fn) (hb : fn.body = some c) (hm : fn.ntmps = m) (hr : fn.results = #[.cell t ty]) (hT : P.underlying ty = some d) (hd : notAgg d = false) (hS : (P.info? ty).map (·.size) = some k)
  (hsz : args.length ≤ m) (hargs : ∀ t v, fr0.get t = some v → args[t]? = some v)
  (h : CW P c (m, [], none) (DoneG (Cell1 t k R) S) fr0 w) : Calls P f args.toArray w (RetOr R S) :=
 calls_of_CWG m _ fr0 hf hb hm (fun a fr w ha hD => res_cell hr hT hd hS ha hD) hsz hargs h
theorem calls_of_CWc {f : FuncId} {fn : Func} {c : Code} {args : List Value} {R : Value → World → Prop} (m t k : Nat) (fr0 : Fr) {ty : TypeId} {d : TypeDesc}
  (hf : P.funcs[f]? = some fn) (hb : fn.body = some c) (hm : fn.ntmps = m) (hr : fn.results = #[.cell t ty]) (hT : P.underlying ty = some d) (hd : notAgg d = false) (hS : (P.info? ty).map (·.size) = some k)
  (hsz : args.length ≤ m) (hargs : ∀ t v, fr0.get t = some v → args[t]? = some v)
  (h : CW P c (m, [], none) (DoneG (Cell1 t k R) (fun _ _ => False)) fr0 w) : Calls P f args.toArray w (Ret R) :=
 (calls_of_CWc_or m t k fr0 hf hb hm hr hT hd hS hsz hargs h).mono fun e w' he => by
  cases e with
  | returned v => exact he
  | panicked ch => exact he.elim
  | outgrown => exact he.elim
def By (w : World) (v : Value) (bs : List UInt8) : Prop := ∃ A m c, v = .slice A m c ∧ bs.length = m ∧ m ≤ c ∧ c ≤ maxLen ∧ (0 < m → ∃ a, A = some a ∧ Mem w a (bytesC bs)) ∧ (A = none → m = 0)
theorem By.chg {T : Nat → Prop} {w w' : World} {v : Value} {bs : List UInt8} (h : By w v bs) (hc : Chg T w w') (hs : bs ≠ [] → ∀ g, v.ownBlock = some g → ¬ T g) : By w' v bs := by
 obtain ⟨A, m, c, rfl, hl, hmc, hcm, hA, hn⟩ := h
 refine ⟨A, m, c, rfl, hl, hmc, hcm, fun h0 => ?_, hn⟩
 obtain ⟨a, rfl, hm⟩ := hA h0
 exact ⟨a, rfl, hm.chg hc (hs (by rintro rfl; simp at hl; omega) _ rfl)⟩
theorem By.ext {w w' : World} {v : Value} {bs : List UInt8} (h : By w v bs) (hc : Ext w w') : By w' v bs := h.chg hc fun _ _ _ f => f
theorem Own.by {e : TypeId} {v : Value} {bs : List UInt8} (h : Own w e 1 v (bytesC bs)) : By w v bs := by
 obtain ⟨A, m, c, rfl⟩ := h.lens
 obtain ⟨hm, hn, hl, hmc, hcm⟩ := h.mem A m c rfl
 rw [bytesC_length] at hl
 exact ⟨A, m, c, rfl, by omega, hmc, hcm, hm, hn⟩
end
section
variable {P : Program} {n : NN} {fr : Fr} {w : World} {ty : TypeId}
theorem Y.and_k {x y : Operand} {k : IntKind} {p q : Int} {t t' : TypeId} {r : Int} (hx : ev fr x = some (.int k p)) (hy : ev fr y = some (.int k q)) (hr : k.wrap ((BitVec.ofInt k.bits p &&& BitVec.ofInt k.bits q).toNat : Int) = r) : Yw P n fr (.binOp .and t x y t') ty w (.int k r) w :=
 Y.bin hx hy (by simp [eqGuard_at_int]) (by
  have e : binOp .and t (.int k p) (.int k q) = pure (.int k r) := by simp only [binOp, ne_eq, not_true_eq_false, if_false, Op.intBits, hr]
  rw [e]; rfl)
theorem Y.shl {x y : Operand} {k k' : IntKind} {p q r : Int} {t t' : TypeId} (hx : ev fr x = some (.int k p)) (hy : ev fr y = some (.int k' q)) (hq : 0 ≤ q) (hr : k.wrap (p * (2 ^ (min q.toNat k.bits))) = r) : Yw P n fr (.binOp .shl t x y t') ty w (.int k r) w :=
 Y.bin hx hy (by simp [eqGuard_at_int]) (by simp [binOp, Op.shift, Int.not_lt.2 hq, hr])
end
section place
variable {w : World} {a : Addr} {bv pv ov : Value} {at_ : Int} {rest : List Value} {au no : ByteArray}
end place
end Go.Fw
namespace Go.Fw
open Go.RowKit
theorem By.slMem {w : World} {a : Addr} {m c i j : Nat} {bs : List UInt8} (h : Mem w a (bytesC bs)) (hl : bs.length = m) (hc : m ≤ c) (h1 : i < j) (h2 : j ≤ m) : Mem w (if c = i then a else a.add (i * 1)) (bytesC ((bs.drop i).take (j - i))) := by
 rw [if_neg (by omega), Nat.mul_one]
 refine h.sub i fun k v hk => ?_
 rw [bytesC, List.getElem?_map] at hk ⊢
 rw [List.getElem?_take] at hk
 split at hk
 ·
  rwa [List.getElem?_drop] at hk
 ·
  cases hk
end Go.Fw
/- Calls that are put off: from a frame without to a frame with one. No condition; no program. -/
namespace Go.Fw
open Go.RowKit
section
variable {P : Program} {n : NN} {fr : Fr} {w : World}
theorem CW.wp {c : Code} {Φ : Exit → Fr → World → Prop} {Q : Exit → Act → World → Prop} {a : Act} (h : CW P c n Φ fr w) (ha : Rep n a fr) (hQ : ∀ e f a' w', Rep n a' f → Φ e f w' → Q e a' w') (hn0 : n.2.2 = none := by rfl) : c.wp P Q a w :=
 wp_mono ((CW.plain hn0).1 h a ha) fun e a' w' ⟨f, hf, hp⟩ => hQ e f a' w' hf hp
end
end Go.Fw
/- The plain law: what the functions compute, on Lean's data. No condition; no program. -/
namespace Go.Pl
open Go.Fw
def rootB (r : RefD) : Bool := decide (r = RefD.zero)
def refB (r : RefD) : Bool := if r.own then decide (r.c = Dig.zero) && decide (0 < r.n) else rootB r || (decide (0 < r.n) && decide (r.n ≤ 2000))
def refKind (r : RefD) : Int := if r.own then (if r.c ≠ Dig.zero ∨ r.n < 1 then 3 else 1) else if 1 ≤ r.n ∧ r.n ≤ 2000 then 2 else if r.n = 0 ∧ r.c = Dig.zero then 0 else 3
def lessB (a b : Dig) : Bool := Op.bytesLess a.1 b.1
theorem bytesLess_self : ∀ l : List UInt8, Op.bytesLess l l = false
 | [] => rfl
 | a :: l => by simp [Op.bytesLess, bytesLess_self l]
theorem take_succ {α : Type} {l : List α} {i : Nat} {x : α} (h : l[i]? = some x) : l.take (i + 1) = l.take i ++ [x] := by
 rw [List.take_add_one, h]; rfl
theorem bytesLess_at : ∀ {a b : List UInt8} {i : Nat} {x y : UInt8}, a.take i = b.take i → a[i]? = some x → b[i]? = some y → x ≠ y → Op.bytesLess a b = decide (x < y)
 | x' :: a, y' :: b, 0, x, y, _, hx, hy, hne => by
  simp at hx hy
  subst hx; subst hy
  simp [Op.bytesLess, hne]
 | x' :: a, y' :: b, i + 1, x, y, ht, hx, hy, hne => by
  simp at hx hy
  simp only [List.take_succ_cons, List.cons.injEq] at ht
  obtain ⟨rfl, ht⟩ := ht
  have := bytesLess_at ht hx hy hne
  have hlt : ¬ x' < x' := by simp
  simp [Op.bytesLess, this, hlt]
 | [], _, i, x, y, _, hx, _, _ => by simp at hx
 | _ :: _, [], i, x, y, _, _, hy, _ => by simp at hy
def kindAt (l : List OpD) (k : Nat) : Int := ((l[k]?).map (·.kind)).getD 0
def rightX (l : List OpD) (i : Int) (x : OpD) : Int :=
 if refB x.at_ = false then 1
 else if x.kind = 1 ∧ (x.left = true ∧ rootB x.at_ = true) then 1
 else if x.kind = 2 ∧ (x.left = true ∨ (x.byte.toNat : Int) ≠ 0 ∨ rootB x.at_ = true) then 1
 else if x.kind ≠ 1 ∧ x.kind ≠ 2 then 1
 else if x.at_.own = true ∧ (i ≤ x.at_.n ∨ kindAt l (x.at_.n - 1).toNat ≠ 1) then 5 else 0
def rightI (l : List OpD) (i : Int) : Int := if i < 1 ∨ (l.length : Int) < i then 9 else match l[(i - 1).toNat]? with
 | some x => rightX l i x
 | none => 9
theorem rightI_of {l : List OpD} {i : Int} {x : OpD} (h : ¬ (i < 1 ∨ (l.length : Int) < i)) (hx : l[(i - 1).toNat]? = some x) : rightI l i = rightX l i x := by
 rw [rightI, if_neg h, hx]
theorem root_iff (r : RefD) : rootB r = true ↔ r.own = false ∧ r.c = Dig.zero ∧ r.n = 0 := by
 obtain ⟨o, c, n⟩ := r
 simp [rootB, RefD.zero]
theorem rk3 (r : RefD) : refKind r = 3 ↔ refB r = false := by
 obtain ⟨o, c, n⟩ := r
 cases o <;> by_cases h1 : c = Dig.zero <;> simp [refKind, refB, rootB, RefD.zero, h1] <;> (repeat' split) <;> first | omega | (simp_all; done) | (simp_all; omega)
theorem rk0 (r : RefD) : refKind r = 0 ↔ rootB r = true := by
 obtain ⟨o, c, n⟩ := r
 cases o <;> by_cases h1 : c = Dig.zero <;> simp [refKind, rootB, RefD.zero, h1] <;> (repeat' split) <;> first | omega | (simp_all; done) | (simp_all; omega)
theorem rk1 (r : RefD) : refKind r = 1 ↔ r.own = true ∧ refB r = true := by
 obtain ⟨o, c, n⟩ := r
 cases o <;> by_cases h1 : c = Dig.zero <;> simp [refKind, refB, rootB, RefD.zero, h1] <;> (repeat' split) <;> first | omega | (simp_all; done) | (simp_all; omega)
theorem rightX_alt (l : List OpD) (i : Int) (x : OpD) : rightX l i x =
  if refKind x.at_ = 3 ∨ (¬ (x.kind = 1 ∧ ¬ (refKind x.at_ = 0 ∧ x.left = true)) ∧ ¬ (x.kind = 2 ∧ refKind x.at_ ≠ 0 ∧ x.left = false ∧ (x.byte.toNat : Int) = 0)) then 1
  else if refKind x.at_ = 1 ∧ (i ≤ x.at_.n ∨ kindAt l (x.at_.n - 1).toNat ≠ 1) then 5 else 0 := by
 have hl : x.left = true ∨ x.left = false := by cases x.left <;> simp
 have ho : x.at_.own = true ∨ x.at_.own = false := by cases x.at_.own <;> simp
 simp only [rightX, ne_eq, rk3, rk0, rk1]
 generalize (x.byte.toNat : Int) = b
 generalize kindAt l (x.at_.n - 1).toNat = q
 generalize x.at_.n = n
 generalize x.kind = k
 by_cases h1 : refB x.at_ = false
 ·
  simp [h1]
 ·
  have h1' : refB x.at_ = true := by simpa using h1
  rcases hl with hl | hl <;> rcases ho with ho | ho <;> by_cases h2 : k = 1 <;> by_cases h3 : k = 2 <;> by_cases h4 : b = 0 <;> by_cases h5 : rootB x.at_ = true <;> simp_all
def lettersL : List UInt8 := [65, 66, 67, 68, 69, 70, 71, 72, 73, 74, 75, 76, 77, 78, 79, 80, 81, 82, 83, 84, 85, 86, 87, 88, 89, 90, 97, 98, 99, 100, 101, 102, 103, 104, 105, 106, 107, 108, 109, 110, 111, 112, 113, 114, 115, 116, 117, 118, 119, 120, 121, 122, 48, 49, 50, 51, 52, 53, 54, 55, 56, 57, 45, 95, 46, 35, 64, 126]
def letterI (c : Int) : Bool := decide ((65 ≤ c ∧ c ≤ 90) ∨ (97 ≤ c ∧ c ≤ 122) ∨ (48 ≤ c ∧ c ≤ 57) ∨ c = 45 ∨ c = 95 ∨ c = 46 ∨ c = 35 ∨ c = 64 ∨ c = 126)
def letter (c : UInt8) : Bool := letterI (c.toNat : Int)
theorem letter_all : ∀ n, n < 256 → decide (Lib.indexByte lettersL (UInt8.ofNat n) < 0) = !letterI (n : Int) := by decide +kernel
theorem letter_index (c : UInt8) : Lib.indexByte lettersL c < 0 ↔ letter c = false := by
 have h := letter_all c.toNat c.toNat_lt
 rw [UInt8.ofNat_toNat] at h
 unfold letter
 rw [Bool.eq_iff_iff] at h
 simp at h
 rw [h]
def nameB (l : List UInt8) : Bool := l.all letter && (decide (1 ≤ l.length) && decide (l.length ≤ 24))
theorem all_take_succ {l : List UInt8} {i : Nat} {x : UInt8} {p : UInt8 → Bool} (h : (l.take i).all p = true) (hx : l[i]? = some x) (hp : p x = true) : (l.take (i + 1)).all p = true := by
 rw [take_succ hx, List.all_append, h]; simp [hp]
theorem nameB_no {l : List UInt8} {i : Nat} {x : UInt8} (hx : l[i]? = some x) (hp : letter x = false) : nameB l = false := by
 have : l.all letter = false := by
  rw [Bool.eq_false_iff]
  intro h
  rw [List.all_eq_true] at h
  have := h x (List.mem_of_getElem? hx)
  rw [hp] at this; cases this
 simp [nameB, this]
theorem nameB_end {l : List UInt8} {i : Nat} (h : (l.take i).all letter = true) (hi : l.length ≤ i) : nameB l = (decide (1 ≤ l.length) && decide (l.length ≤ 24)) := by
 rw [List.take_of_length_le hi] at h
 simp [nameB, h]
theorem get_toList {s : ByteArray} {i : Nat} (h : i < s.size) : s.toList[i]? = some s[i] := by
 rw [ByteArray.toList_eq]
 show s.data.toList[i]? = some s.data[i]
 simp
def risingB : List Dig → Bool
 | [] => true
 | [_] => true
 | x :: y :: r => lessB x y && risingB (y :: r)
theorem rising_iff : ∀ l : List Dig, risingB l = true ↔ ∀ i x y, l[i]? = some x → l[i + 1]? = some y → lessB x y = true
 | [] => by simp [risingB]
 | [a] => by simp [risingB]
 | a :: b :: r => by
  rw [risingB, Bool.and_eq_true, rising_iff (b :: r)]
  constructor
  ·
   rintro ⟨h1, h2⟩ i x y hx hy
   cases i with
   | zero => simp at hx hy; subst hx; subst hy; exact h1
   | succ i => exact h2 i x y (by simpa using hx) (by simpa using hy)
  ·
   intro h
   exact ⟨h 0 a b rfl rfl, fun i x y hx hy => h (i + 1) x y (by simpa using hx) (by simpa using hy)⟩
def opsErrFrom (l : List OpD) : Nat → Nat → Int
 | _, 0 => 0
 | i, n + 1 => if rightI l (i + 1) ≠ 0 then rightI l (i + 1) else opsErrFrom l (i + 1) n
def opsErr (l : List OpD) : Int := opsErrFrom l 0 l.length
theorem opsErrFrom_skip (l : List OpD) : ∀ (k i n : Nat), (∀ j, i ≤ j → j < i + k → rightI l (j + 1) = 0) → k ≤ n → opsErrFrom l i n = opsErrFrom l (i + k) (n - k)
 | 0, i, n, _, _ => rfl
 | k + 1, i, n + 1, h, hk => by
  have h0 := h i (Nat.le_refl _) (by omega)
  rw [opsErrFrom, if_neg (by simp [h0]), opsErrFrom_skip l k (i + 1) n (fun j h1 h2 => h j (by omega) (by omega)) (by omega)]
  congr 1
  ·
   omega
  ·
   omega
 | k + 1, i, 0, _, hk => by omega
theorem opsErr_at {l : List OpD} {i : Nat} (h : ∀ j : Nat, j < i → rightI l (j + 1) = 0) (hi : i < l.length) (hne : rightI l (i + 1) ≠ 0) : opsErr l = rightI l (i + 1) := by
 rw [opsErr, opsErrFrom_skip l i 0 l.length (fun j _ hj => h j (by omega)) (by omega), Nat.zero_add]
 obtain ⟨m, hm⟩ : ∃ m, l.length - i = m + 1 := ⟨l.length - i - 1, by omega⟩
 rw [hm, opsErrFrom, if_pos hne]
theorem opsErr_end {l : List OpD} (h : ∀ j : Nat, j < l.length → rightI l (j + 1) = 0) : opsErr l = 0 := by
 rw [opsErr, opsErrFrom_skip l l.length 0 l.length (fun j _ hj => h j (by omega)) (by omega), Nat.sub_self]
 rfl
def mayI (c : ComD) : Int :=
 if 8 < c.parents.length then 4 else if risingB c.parents = false then 7 else if nameB c.author.toList = false then 11
 else if 200 < c.note.size then 3 else if 2000 < c.ops.length then 4 else opsErr c.ops
end Go.Pl
/- The plain law of a commit's bytes. No condition; no program. -/
namespace Go.Pl
open Go.Fw
def vi (n : Nat) : List UInt8 := if n < 128 then [UInt8.ofNat n] else UInt8.ofNat (n % 128 + 128) :: vi (n / 128)
termination_by n
theorem vi_lt {n : Nat} (h : n < 128) : vi n = [UInt8.ofNat n] := by rw [vi, if_pos h]
theorem vi_ge {n : Nat} (h : ¬ n < 128) : vi n = UInt8.ofNat (n % 128 + 128) :: vi (n / 128) := by rw [vi, if_neg h]
theorem vi_len : ∀ (k n : Nat), n < 128 ^ (k + 1) → (vi n).length ≤ k + 1
 | k, n, h => by
  by_cases h1 : n < 128
  ·
   rw [vi_lt h1]; simp
  ·
   rw [vi_ge h1]
   cases k with
   | zero => simp at h; omega
   | succ k =>
    have h2 : n / 128 < 128 ^ (k + 1) := by
     rw [Nat.pow_succ] at h
     exact Nat.div_lt_of_lt_mul (by rw [Nat.mul_comm]; exact h)
    have := vi_len k (n / 128) h2
    simp only [List.length_cons]
    omega
theorem vi_len9 {n : Nat} (h : n < 9223372036854775808) : (vi n).length ≤ 9 := vi_len 8 n (by omega)
def numB (n : Int) : List UInt8 := if n < 0 then [] else vi n.toNat
theorem numB_len {n : Int} (h : n < 9223372036854775808) : (numB n).length ≤ 9 := by
 unfold numB
 split
 ·
  simp
 ·
  exact vi_len9 (by omega)
theorem numB_nat (n : Nat) : numB (n : Int) = vi n := by rw [numB, if_neg (by omega)]; rfl
def textB (s : List UInt8) : List UInt8 := vi s.length ++ s
def flagI (x : OpD) : Int := (if x.kind = 2 then 1 else 0) + (if x.left = true then 2 else 0) + (if x.at_.own = true then 4 else if rootB x.at_ = true then 0 else 8)
def opB (x : OpD) : List UInt8 := (if x.at_.own = true then numB (flagI x) ++ numB x.at_.n else if rootB x.at_ = true then numB (flagI x) else numB (flagI x) ++ x.at_.c.1 ++ numB x.at_.n) ++ (if x.kind = 1 then [x.byte] else [])
theorem flagI_range (x : OpD) : 0 ≤ flagI x ∧ flagI x ≤ 11 := by
 unfold flagI
 split <;> split <;> split <;> (try split) <;> omega
theorem opB_len {x : OpD} (h : x.at_.n < 9223372036854775808) : (opB x).length ≤ 51 := by
 have h1 := numB_len (n := flagI x) (by have := flagI_range x; omega)
 have h2 := numB_len h
 have h3 := x.at_.c.2
 unfold opB
 by_cases a : x.at_.own = true <;> by_cases b : rootB x.at_ = true <;> by_cases c : x.kind = 1 <;> simp only [a, b, c, if_true, if_false, List.length_append, List.length_cons, List.length_nil, h3] <;> (try simp only [List.length_append, List.length_cons, List.length_nil, h3, Bool.false_eq_true, if_false]) <;> omega
def comB (c : ComD) : List UInt8 := vi c.parents.length ++ (c.parents.map (·.1)).flatten ++ textB c.author.toList ++ textB c.note.toList ++ vi c.ops.length ++ (c.ops.map opB).flatten
theorem flat_take_succ {α β : Type} {l : List α} {f : α → List β} {i : Nat} {x : α} (h : l[i]? = some x) : ((l.take (i + 1)).map f).flatten = ((l.take i).map f).flatten ++ f x := by
 rw [take_succ h]; simp
theorem flat_len {α β : Type} {f : α → List β} {k : Nat} : ∀ {l : List α}, (∀ x ∈ l, (f x).length ≤ k) → (l.map f).flatten.length ≤ l.length * k
 | [], _ => by simp
 | x :: l, h => by
  have h1 := h x (by simp)
  have h2 := flat_len (f := f) (k := k) (l := l) fun y hy => h y (by simp [hy])
  simp only [List.map_cons, List.flatten_cons, List.length_append, List.length_cons, Nat.succ_mul]
  omega
theorem opsErrFrom_zero (l : List OpD) : ∀ (n i : Nat), opsErrFrom l i n = 0 → ∀ j, i ≤ j → j < i + n → rightI l (j + 1) = 0
 | 0, i, _, j, h1, h2 => by omega
 | n + 1, i, h, j, h1, h2 => by
  rw [opsErrFrom] at h
  split at h
  ·
   rename_i hne; exact absurd h hne
  ·
   rename_i hne
   simp only [ne_eq, Decidable.not_not] at hne
   rcases Nat.eq_or_lt_of_le h1 with rfl | h1
   ·
    exact hne
   ·
    exact opsErrFrom_zero l n (i + 1) h j (by omega) (by omega)
structure MayOk (c : ComD) : Prop where
 parents : c.parents.length ≤ 8
 rising : risingB c.parents = true
 author : nameB c.author.toList = true
 note : c.note.size ≤ 200
 ops : c.ops.length ≤ 2000
 right : ∀ j, j < c.ops.length → rightI c.ops ((j : Int) + 1) = 0
theorem mayI_ok {c : ComD} (h : mayI c = 0) : MayOk c := by
 unfold mayI at h
 split at h
 ·
  simp at h
 split at h
 ·
  simp at h
 split at h
 ·
  simp at h
 split at h
 ·
  simp at h
 split at h
 ·
  simp at h
 rename_i h1 h2 h3 h4 h5
 exact ⟨by omega, by simpa using h2, by simpa using h3, by omega, by omega, fun j hj => opsErrFrom_zero c.ops _ 0 h j (by omega) (by omega)⟩
theorem mayOk_i {c : ComD} (h : MayOk c) : mayI c = 0 := by
 have h1 := h.parents
 have h4 := h.note
 have h5 := h.ops
 rw [mayI, if_neg (by omega), if_neg (by simp [h.rising]), if_neg (by simp [h.author]), if_neg (by omega), if_neg (by omega)]
 exact opsErr_end h.right
theorem MayOk.name {c : ComD} (h : MayOk c) : c.author.size ≤ 24 := by
 have := h.author
 simp only [nameB, Bool.and_eq_true, decide_eq_true_eq, toList_length] at this
 omega
theorem MayOk.right' {c : ComD} (h : MayOk c) {j : Nat} {x : OpD} (hx : c.ops[j]? = some x) : rightX c.ops ((j : Int) + 1) x = 0 := by
 have hj := (List.getElem?_eq_some_iff.1 hx).1
 have := h.right j hj
 rwa [rightI_of (by omega) (by rw [show ((j : Int) + 1 - 1).toNat = j by omega]; exact hx)] at this
theorem rightX_zero {l : List OpD} {i : Int} {x : OpD} (h : rightX l i x = 0) : refB x.at_ = true ∧ ¬ (x.kind = 1 ∧ x.left = true ∧ rootB x.at_ = true) ∧ ¬ (x.kind = 2 ∧ (x.left = true ∨ (x.byte.toNat : Int) ≠ 0 ∨ rootB x.at_ = true)) ∧ (x.kind = 1 ∨ x.kind = 2) ∧ (x.at_.own = true → x.at_.n < i ∧ kindAt l (x.at_.n - 1).toNat = 1) := by
 unfold rightX at h
 split at h
 ·
  simp at h
 split at h
 ·
  simp at h
 split at h
 ·
  simp at h
 split at h
 ·
  simp at h
 split at h
 ·
  simp at h
 rename_i h1 h2 h3 h4 h5
 refine ⟨by simpa using h1, h2, h3, by omega, fun ho => ?_⟩
 have h6 := not_or.1 (fun e => h5 ⟨ho, e⟩)
 exact ⟨by omega, Decidable.not_not.1 h6.2⟩
theorem MayOk.n {c : ComD} (h : MayOk c) {x : OpD} (hx : x ∈ c.ops) : 0 ≤ x.at_.n ∧ x.at_.n ≤ 2000 := by
 obtain ⟨j, hj⟩ := List.mem_iff_getElem?.1 hx
 have hjl := (List.getElem?_eq_some_iff.1 hj).1
 have ho := h.ops
 obtain ⟨h1, _, _, _, h5⟩ := rightX_zero (h.right' hj)
 unfold refB at h1
 split at h1
 ·
  rename_i hown
  have := (h5 hown).1
  simp at h1
  omega
 ·
  simp only [Bool.or_eq_true, root_iff, Bool.and_eq_true, decide_eq_true_eq] at h1
  rcases h1 with h1 | h1 <;> omega
end Go.Pl
namespace Go.Pl
open Go.Fw
def gn : Nat → Nat → List UInt8 → Except Int (Nat × Nat)
 | _, _, [] => .error 8
 | i, s, x :: r => if 128 ≤ x.toNat ∧ i + 1 = 9 then .error 9 else if x.toNat = 0 ∧ 0 < i then .error 7 else
  if 128 ≤ x.toNat then gn (i + 1) (s + x.toNat % 128 * 128 ^ i) r else .ok (s + x.toNat % 128 * 128 ^ i, i + 1)
def gnum (bs : List UInt8) (at_ : Nat) : Except Int (Nat × Nat) := match gn 0 0 (bs.drop at_) with
 | .error e => .error e
 | .ok (n, k) => .ok (n, at_ + k)
def gtext (bs : List UInt8) (at_ : Nat) : Except Int (List UInt8 × Nat) := match gnum bs at_ with
 | .error e => .error e
 | .ok (n, nx) => if 131072 < n then .error 3 else if bs.length < nx + n then .error 8 else .ok ((bs.drop nx).take n, nx + n)
end Go.Pl
namespace Go.Pl
open Go.Fw
def gE (bs : List UInt8) (at_ : Nat) : Int := match gnum bs at_ with | .error e => e | .ok _ => 0
def gN (bs : List UInt8) (at_ : Nat) : Int := match gnum bs at_ with | .error _ => 0 | .ok (n, _) => (n : Int)
end Go.Pl
namespace Go.Pl
end Go.Pl
namespace Go.Pl
open Go.Fw
def gdig (bs : List UInt8) (at_ : Nat) : Except Int (Dig × Nat) := if h : at_ + 32 ≤ bs.length then .ok (⟨(bs.drop at_).take 32, by rw [List.length_take, List.length_drop]; omega⟩, at_ + 32) else .error 8
def gopD (bs : List UInt8) (n at_ : Nat) : Except Int (Dig × Nat) := if 8 ≤ n then gdig bs at_ else .ok (Dig.zero, at_)
def gopN (bs : List UInt8) (n at_ : Nat) : Except Int (Nat × Nat) := if 4 ≤ n then (match gnum bs at_ with
 | .error e => .error e
 | .ok (k, a) => if k = 0 then .error 7 else .ok (k, a)) else .ok (0, at_)
def gopB (bs : List UInt8) (n at_ : Nat) : Except Int (UInt8 × Nat) := if n % 2 = 0 then (match bs[at_]? with
 | some b => .ok (b, at_ + 1)
 | none => .error 8) else .ok (0, at_)
def gop (bs : List UInt8) (at_ : Nat) : Except Int (OpD × Nat) := match gnum bs at_ with
 | .error e => .error e
 | .ok (n, a1) => if 12 ≤ n then .error 7 else match gopD bs n a1 with
  | .error e => .error e
  | .ok (d, a2) => match gopN bs n a2 with
   | .error e => .error e
   | .ok (k, a3) => match gopB bs n a3 with
    | .error e => .error e
    | .ok (b, a4) => .ok (⟨if n % 2 = 0 then 1 else 2, decide (n / 2 % 2 = 1), ⟨decide (n / 4 = 1), d, (k : Int)⟩, b⟩, a4)
def gmany {α : Type} (f : List UInt8 → Nat → Except Int (α × Nat)) (bs : List UInt8) : Nat → Nat → Except Int (List α × Nat)
 | 0, at_ => .ok ([], at_)
 | k + 1, at_ => match f bs at_ with
  | .error e => .error e
  | .ok (x, a) => match gmany f bs k a with
   | .error e => .error e
   | .ok (xs, a') => .ok (x :: xs, a')
def gcom (b : List UInt8) : Except Int (ComD × Nat) := match gnum b 0 with
 | .error e => .error e
 | .ok (n, a1) => if 8 < n then .error 4 else match gmany gdig b n a1 with
  | .error e => .error e
  | .ok (ps, a2) => match gtext b a2 with
   | .error e => .error e
   | .ok (au, a3) => match gtext b a3 with
    | .error e => .error e
    | .ok (no, a4) => match gnum b a4 with
     | .error e => .error e
     | .ok (m, a5) => if 2000 < m then .error 4 else match gmany gop b m a5 with
      | .error e => .error e
      | .ok (ops, a6) => .ok (⟨ps, bs au, bs no, ops⟩, a6)
def decI (b : List UInt8) : Except Int ComD := match gcom b with
 | .error e => .error e
 | .ok (c, a) => if a ≠ b.length then .error 7 else if mayI c ≠ 0 then .error (mayI c) else .ok c
end Go.Pl
