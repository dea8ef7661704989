/- Parts of a proof: what its last text leans on. No condition. -/
import Derived.Test.YtfanmpbapabboaaGreatDoorProg
import Derived.Great.BuildSlice
import Derived.ScopeJumps
import Derived.Defers
import Derived.Recover
import Derived.Lib.Bytealg
import Derived.Test.YtfanmpbapabboaaGreatDoorK02
set_option linter.unusedSimpArgs false
set_option linter.unusedVariables false
/- What this program's types are: closed facts; equality at the api's types. No condition. -/
namespace Go.Proofs.YtfanmpbapabboaaGreatDoor
open Go.RowKit Go.Fw
theorem sz_dig : (Tryz.prog.info? 38).map (·.size) = some 32 := by kernel_rfl
theorem sz_ref : (Tryz.prog.info? 87).map (·.size) = some 34 := by kernel_rfl
theorem sz_op : (Tryz.prog.info? 89).map (·.size) = some 37 := by kernel_rfl
theorem sz_u8 : ∀ w, (sizeOf 5).run Tryz.prog w = .ok 1 w := fun w => fw_sizeOf kr_
theorem sz_int : (Tryz.prog.info? 3).map (·.size) = some 1 := by kernel_rfl
theorem sz_bool : (Tryz.prog.info? 4).map (·.size) = some 1 := by kernel_rfl
theorem sz_uint8 : (Tryz.prog.info? 5).map (·.size) = some 1 := by kernel_rfl
abbrev sz0_uint8 := @sz_uint8
abbrev sz0_int := @sz_int
abbrev sz0_apiDigest := @sz_dig
abbrev sz0_apiOp := @sz_op
theorem fo_apiRef0 : FieldOff Tryz.prog 87 0 0 := ⟨_, _, 1, Tryz.underlying87, rfl, sz_bool, by decide, rfl⟩
theorem fo_apiRef1 : FieldOff Tryz.prog 87 1 1 := ⟨_, _, 32, Tryz.underlying87, rfl, sz_dig, by decide, rfl⟩
theorem fo_apiRef2 : FieldOff Tryz.prog 87 2 33 := ⟨_, _, 1, Tryz.underlying87, rfl, sz_int, by decide, rfl⟩
theorem fo_apiOp0 : FieldOff Tryz.prog 89 0 0 := ⟨_, _, 1, Tryz.underlying89, rfl, sz_int, by decide, rfl⟩
theorem fo_apiOp1 : FieldOff Tryz.prog 89 1 1 := ⟨_, _, 1, Tryz.underlying89, rfl, sz_bool, by decide, rfl⟩
theorem fo_apiOp2 : FieldOff Tryz.prog 89 2 2 := ⟨_, _, 34, Tryz.underlying89, rfl, sz_ref, by decide, rfl⟩
theorem fo_apiOp3 : FieldOff Tryz.prog 89 3 36 := ⟨_, _, 1, Tryz.underlying89, rfl, sz_uint8, by decide, rfl⟩
theorem sz_string : (Tryz.prog.info? 9).map (·.size) = some 1 := by kernel_rfl
theorem sz_sDig : (Tryz.prog.info? 23).map (·.size) = some 1 := by kernel_rfl
theorem sz_sOp : (Tryz.prog.info? 43).map (·.size) = some 1 := by kernel_rfl
theorem fo_apiCommit0 : FieldOff Tryz.prog 45 0 0 := ⟨_, _, 1, Tryz.underlying45, rfl, sz_sDig, by decide, rfl⟩
theorem fo_apiCommit1 : FieldOff Tryz.prog 45 1 1 := ⟨_, _, 1, Tryz.underlying45, rfl, sz_string, by decide, rfl⟩
theorem fo_apiCommit2 : FieldOff Tryz.prog 45 2 2 := ⟨_, _, 1, Tryz.underlying45, rfl, sz_string, by decide, rfl⟩
theorem fo_apiCommit3 : FieldOff Tryz.prog 45 3 3 := ⟨_, _, 1, Tryz.underlying45, rfl, sz_sOp, by decide, rfl⟩
theorem sz_com : (Tryz.prog.info? 45).map (·.size) = some 4 := by kernel_rfl
theorem sz_apiCommit (pv ov : Value) (au no : ByteArray) : (Tryz.prog.info? 45).map (·.size) = some (comC pv au no ov).length := sz_com
theorem mixed : Tryz.prog.follows .mixedOrders = true := by kernel_rfl
theorem guard_dig : Tryz.prog.eqGuardType Tryz.prog.depth 38 = false := by kernel_rfl
theorem guard_ref : Tryz.prog.eqGuardType Tryz.prog.depth 87 = false := by kernel_rfl
theorem held_ref : Tryz.prog.stoodInHeld 87 = false := by kernel_rfl
theorem eqIn_dig (d : Nat) (a b : Dig) (w : World) : (Op.equalIn (d + 2) 38 (digV a) (digV b)).run Tryz.prog w = .ok (decide (a = b)) w := by
 have h := run_equalIn_bytes (P := Tryz.prog) w d 38 5 32 Tryz.underlying38 Tryz.underlying5 sz_u8 a.1 b.1 a.2 b.2
 have e : (a.1 == b.1) = decide (a = b) := by
  rw [Bool.eq_iff_iff]; simp [Subtype.ext_iff]
 rw [e] at h
 exact h
theorem part_dig {cs : Array Value} {off : Nat} {w : World} : (part 38 cs off).run Tryz.prog w = .ok (.agg (cs.extract off (off + 32))) w := by
 simp [part, fw_isAgg_yes Tryz.underlying38 rfl, fw_sizeOf sz_dig]
theorem part_one {P : Program} {t : TypeId} {d : TypeDesc} {cs : Array Value} {off : Nat} {v : Value} {w : World} (hT : P.underlying t = some d) (hd : notAgg d = true) (hv : cs[off]? = some v) : (part t cs off).run P w = .ok v w := by
 simp [part, fw_isAgg_no hT hd, hv]
theorem ref_own (r : RefD) : (refC r).toArray[0]? = some (.bool r.own) := by simp [refC]
theorem ref_c (r : RefD) : (refC r).toArray.extract 1 (1 + 32) = (digC r.c).toArray := by
 have := digC_length r.c
 simp [refC, List.drop, List.take_append, this]
theorem ref_n (r : RefD) : (refC r).toArray[33]? = some (.int .i64 r.n) := by simpa using refC_get33 r
theorem fields_ref : ∃ f0 f1 f2 : Field, (Tryz.prog.fieldsOf 87).toList = [f0, f1, f2] ∧ f0.name ≠ "_" ∧ f1.name ≠ "_" ∧ f2.name ≠ "_" ∧ f0.type = 4 ∧ f1.type = 38 ∧ f2.type = 3 ∧ f0.offset = 0 ∧ f1.offset = 1 ∧ f2.offset = 33 := by
 refine ⟨_, _, _, (by simp only [Program.fieldsOf, Tryz.underlying87]; rfl), ?_, ?_, ?_, rfl, rfl, rfl, rfl, rfl, rfl⟩ <;> decide
theorem ht_ref : Tryz.prog.underlying 87 = some (.struct (Tryz.prog.fieldsOf 87)) := by simp only [Program.fieldsOf, Tryz.underlying87]
theorem eqIn_ref (d : Nat) (a b : RefD) (w : World) : (Op.equalIn (d + 3) 87 (refV a) (refV b)).run Tryz.prog w = .ok (decide (a = b)) w := by
 rw [run_equalIn_struct (P := Tryz.prog) w (d + 2) _ _ _ ht_ref held_ref]
 obtain ⟨f0, f1, f2, hf, n0, n1, n2, t0, t1, t2, o0, o1, o2⟩ := fields_ref
 rw [hf]
 simp only [Op.eqFields, Sem.run_ite, Sem.run_pure, n0, n1, n2, t0, t1, t2, o0, o1, o2, ne_eq, not_false_eq_true, if_true, Sem.run_bind, part_one Tryz.underlying4 rfl (ref_own _), part_one Tryz.underlying3 rfl (ref_n _), part_dig, ref_c, Result.andThen_ok, eqIn_dig,
  run_equalIn_bool' w _ _ _ _ Tryz.underlying4, run_equalIn_int w _ _ _ _ _ _ Tryz.underlying3]
 obtain ⟨ao, ac, an⟩ := a
 obtain ⟨bo, bc', bn⟩ := b
 by_cases h0 : ao = bo <;> by_cases h1 : ac = bc' <;> by_cases h2 : an = bn <;> simp [h0, h1, h2]
theorem build_apiDigest (w : World) : (Instr.build 38 #[]).run Tryz.prog w = .ok (digV Dig.zero) w := by kernel_rfl
theorem build_apiRef (w : World) : (Instr.build 87 #[]).run Tryz.prog w = .ok (refV RefD.zero) w := by kernel_rfl
theorem sz_apiDigest (d : Dig) : (Tryz.prog.info? 38).map (·.size) = some (digC d).length := by rw [digC_length]; exact sz_dig
theorem sz_apiRef (r : RefD) : (Tryz.prog.info? 87).map (·.size) = some (refC r).length := by rw [refC_length]; exact sz_ref
theorem sz_apiOp (x : OpD) : (Tryz.prog.info? 89).map (·.size) = some (opC x).length := by rw [opC_length]; exact sz_op
theorem info_apiDigest : ∃ i : TypeInfo, Tryz.prog.info? 38 = some i ∧ i.zero = some (.agg (digC Dig.zero).toArray) ∧ i.size = 32 := by
 have h : (Tryz.prog.info? 38).map (fun i => (i.zero, i.size)) = some (some (.agg (digC Dig.zero).toArray), 32) := by kernel_rfl
 cases hi : Tryz.prog.info? 38 with
 | none => simp [hi] at h
 | some i => simp [hi] at h; exact ⟨i, rfl, h.1, h.2⟩
theorem as_apiDigest {n : NN} {Φ : Exit → Fr → World → Prop} {fr : Fr} {w : World} {ops : Array Oper} {rest : List Oper} {d : Nat} {x : Operand} {ty ty' : TypeId} {pos pos' : String} {aft aft' : Array Edge} {v : Dig}
  (hx : ev fr x = some (.agg (digC v).toArray)) (hxd : x ≠ .tmp d) (hd : d < n.1)
  (h : ∀ g w', Ext w w' → w.heap.size ≤ g → Blk w' g 38 (digC v) → WL Tryz.prog ops n Φ rest ((d, .pointer (some ⟨g, 0, none⟩)) :: fr) w') :
  WL Tryz.prog ops n Φ (⟨some d, .alloc 38, ty, pos, aft, none⟩ :: ⟨none, .store 38 (.tmp d) x, ty', pos', aft', none⟩ :: rest) fr w := by
 obtain ⟨i, hi, hz, hs⟩ := info_apiDigest
 exact WL.allocStore (zs := digC Dig.zero) hi hz rfl (by rw [hs, digC_length]) (by rw [digC_length, digC_length]) hx hxd rfl one_digC hd h
theorem info_apiOp : ∃ i : TypeInfo, Tryz.prog.info? 89 = some i ∧ i.zero = some (.agg (opC (⟨0, false, RefD.zero, 0⟩ : OpD)).toArray) ∧ i.size = 37 := by
 have h : (Tryz.prog.info? 89).map (fun i => (i.zero, i.size)) = some (some (.agg (opC (⟨0, false, RefD.zero, 0⟩ : OpD)).toArray), 37) := by kernel_rfl
 cases hi : Tryz.prog.info? 89 with
 | none => simp [hi] at h
 | some i => simp [hi] at h; exact ⟨i, rfl, h.1, h.2⟩
theorem as_apiOp {n : NN} {Φ : Exit → Fr → World → Prop} {fr : Fr} {w : World} {ops : Array Oper} {rest : List Oper} {d : Nat} {x : Operand} {ty ty' : TypeId} {pos pos' : String} {aft aft' : Array Edge} {v : OpD}
  (hx : ev fr x = some (.agg (opC v).toArray)) (hxd : x ≠ .tmp d) (hd : d < n.1)
  (h : ∀ g w', Ext w w' → w.heap.size ≤ g → Blk w' g 89 (opC v) → WL Tryz.prog ops n Φ rest ((d, .pointer (some ⟨g, 0, none⟩)) :: fr) w') :
  WL Tryz.prog ops n Φ (⟨some d, .alloc 89, ty, pos, aft, none⟩ :: ⟨none, .store 89 (.tmp d) x, ty', pos', aft', none⟩ :: rest) fr w := by
 obtain ⟨i, hi, hz, hs⟩ := info_apiOp
 exact WL.allocStore (zs := opC (⟨0, false, RefD.zero, 0⟩ : OpD)) hi hz rfl (by rw [hs, opC_length]) (by rw [opC_length, opC_length]) hx hxd rfl one_opC hd h
section Y
variable {n : NN} {fr : Fr} {w : World} {ty : TypeId} {x y : Operand} {t' : TypeId}
theorem Y.eql_apiDigest {a b : Dig} (hx : ev fr x = some (digV a)) (hy : ev fr y = some (digV b)) : Yw Tryz.prog n fr (.binOp .eql 38 x y t') ty w (.bool (decide (a = b))) w :=
 Y.bin hx hy (run_eqGuard_agg w _ _ _ _ _ _ guard_dig) (by rw [run_eql_struct, eqIn_dig 9998]; rfl)
theorem Y.neq_apiDigest {a b : Dig} (hx : ev fr x = some (digV a)) (hy : ev fr y = some (digV b)) : Yw Tryz.prog n fr (.binOp .neq 38 x y t') ty w (.bool (!decide (a = b))) w :=
 Y.bin hx hy (run_eqGuard_agg w _ _ _ _ _ _ guard_dig) (by rw [run_neq_struct, eqIn_dig 9998]; rfl)
theorem Y.eql_apiRef {a b : RefD} (hx : ev fr x = some (refV a)) (hy : ev fr y = some (refV b)) : Yw Tryz.prog n fr (.binOp .eql 87 x y t') ty w (.bool (decide (a = b))) w :=
 Y.bin hx hy (run_eqGuard_agg w _ _ _ _ _ _ guard_ref) (by rw [run_eql_struct, eqIn_ref 9997]; rfl)
end Y
end Go.Proofs.YtfanmpbapabboaaGreatDoor
/- Bytes that are put behind bytes of our own; the closed facts for it. No condition. -/
namespace Go.Fw
open Go.RowKit
def AppB (e : TypeId) (w : World) (v : Value) (xs : List UInt8) (w' : World) (v' : Value) (ys : List UInt8) : Prop :=
 Own w' e 1 v' (bytesC (xs ++ ys)) ∧ Chg (fun g => v.ownBlock = some g) w w' ∧ (v'.ownBlock = v.ownBlock ∨ ∀ g, v'.ownBlock = some g → w.heap.size ≤ g)
section
variable {e : TypeId} {w w1 w2 : World} {v v1 v2 : Value} {xs ys zs : List UInt8} {g : Nat} {t : TypeId} {cs : List Value} {a : Addr}
theorem AppB.refl (h : Own w e 1 v (bytesC xs)) : AppB e w v xs w v [] := ⟨by simpa using h, Chg.refl, .inl rfl⟩
theorem AppB.trans (h : AppB e w v xs w1 v1 ys) (k : AppB e w1 v1 (xs ++ ys) w2 v2 zs) : AppB e w v xs w2 v2 (ys ++ zs) := by
 obtain ⟨h1, h2, h3⟩ := h
 obtain ⟨k1, k2, k3⟩ := k
 refine ⟨by rw [← List.append_assoc]; exact k1, h2.trans k2 fun i hi hh => ?_, ?_⟩
 ·
  rcases h3 with h3 | h3
  ·
   rw [← h3]; exact hh
  ·
   have := h3 i hh; omega
 ·
  rcases k3 with k3 | k3
  ·
   rcases h3 with h3 | h3
   ·
    exact .inl (k3.trans h3)
   ·
    exact .inr fun g hg => h3 g (by rw [← k3]; exact hg)
  ·
   exact .inr fun g hg => Nat.le_trans h2.size (k3 g hg)
theorem AppB.extR (h : AppB e w v xs w1 v1 ys) (k : Ext w1 w2) : AppB e w v xs w2 v1 ys := ⟨h.1.ext k, h.2.1.thenExt k, h.2.2⟩
theorem AppB.blk (h : AppB e w v xs w1 v1 ys) (hb : Blk w g t cs) (hn : v.ownBlock ≠ some g) : Blk w1 g t cs := hb.chg h.2.1 hn
theorem AppB.old {w0 : World} (h : AppB e w v xs w1 v1 ys) (hx : Ext w0 w) (hf : ∀ g, v.ownBlock = some g → w0.heap.size ≤ g) : Ext w0 w1 :=
 (hx.chg (S := fun g => v.ownBlock = some g)).trans h.2.1 (fun _ _ hh => hh) |>.toExt fun i hi hh => by have := hf i hh; omega
end
section
variable {P : Program} {n : NN} {fr : Fr} {w : World} {ty : TypeId}
theorem Y.or_k {x y : Operand} {k : IntKind} {p q : Int} {t t' : TypeId} {r : Int} (hx : ev fr x = some (.int k p)) (hy : ev fr y = some (.int k q)) (hr : k.wrap ((BitVec.ofInt k.bits p ||| BitVec.ofInt k.bits q).toNat : Int) = r) : Yw P n fr (.binOp .or t x y t') ty w (.int k r) w :=
 Y.bin hx hy (by simp [eqGuard_at_int]) (by
  have e : binOp .or t (.int k p) (.int k q) = pure (.int k r) := by simp only [binOp, ne_eq, not_true_eq_false, if_false, Op.intBits, hr]
  rw [e]; rfl)
theorem Y.shr {x y : Operand} {k k' : IntKind} {p q r : Int} {t t' : TypeId} (hx : ev fr x = some (.int k p)) (hy : ev fr y = some (.int k' q)) (hq : 0 ≤ q) (hr : p.fdiv (2 ^ (min q.toNat k.bits)) = r) : Yw P n fr (.binOp .shr t x y t') ty w (.int k r) w :=
 Y.bin hx hy (by simp [eqGuard_at_int]) (by simp [binOp, Op.shift, Int.not_lt.2 hq, hr])
theorem St.app {s x : Operand} {v xv : Value} {t u e e' : TypeId} {b : Nat} {xs ys : List UInt8} {m : Nat}
  (ht : P.underlying t = some (.slice e)) (hud : P.underlying u = some (.slice e')) (hi : AppInfo P e 1 b) (hs : ev fr s = some v) (hx : ev fr x = some xv)
  (hown : Own w e 1 v (bytesC xs)) (hsrc : Src P w 1 xv m (bytesC ys)) (hroom : (xs.length + m) * b ≤ 140737488355328) :
  St P n fr (.call { callee := .builtin .append, args := #[s, x], argTypes := #[t, u] }) ty w (fun v' w' => AppB e w v xs w' v' ys) := by
 intro a o' ho hty ha
 obtain ⟨v', w', hr, hR⟩ := St.append (n := n) (ty := ty) ht hud hi hs hx hown hsrc one_bytesC (by simpa [bytesC_length] using hroom) a o' ho hty ha
 exact ⟨v', w', hr, by rw [bytesC_append]; exact hR.1, hR.2.1, hR.2.2⟩
theorem St.appS {s x : Operand} {v : Value} {str : ByteArray} {t u e : TypeId} {b : Nat} {xs : List UInt8}
  (ht : P.underlying t = some (.slice e)) (hud : P.underlying u = some .string) (hi : AppInfo P e 1 b) (hs : ev fr s = some v) (hx : ev fr x = some (.string str))
  (hown : Own w e 1 v (bytesC xs)) (hroom : (xs.length + str.size) * b ≤ 140737488355328) :
  St P n fr (.call { callee := .builtin .append, args := #[s, x], argTypes := #[t, u] }) ty w (fun v' w' => AppB e w v xs w' v' str.toList) := by
 intro a o' ho hty ha
 obtain ⟨v', w', hr, hR⟩ := St.appendS (n := n) (ty := ty) ht hud hi hs hx hown (by simpa [bytesC_length] using hroom) a o' ho hty ha
 exact ⟨v', w', hr, by rw [bytesC_append]; exact hR.1, hR.2.1, hR.2.2⟩
theorem Src.own {e : TypeId} {v : Value} {ys : List UInt8} (h : Own w e 1 v (bytesC ys)) : Src P w 1 v ys.length (bytesC ys) := by
 obtain ⟨A, n, c, rfl⟩ := h.lens
 obtain ⟨hm, hn, hl, _⟩ := h.mem A n c rfl
 have : n = ys.length := by rw [bytesC_length] at hl; omega
 subst this
 exact Src.slice (by simpa using hl) hm
theorem Src.arr {a : Addr} {ys : List UInt8} {c : Nat} (h : Mem w a (bytesC ys)) : Src P w 1 (.slice (some a) ys.length c) ys.length (bytesC ys) := Src.slice (by rw [bytesC_length]; omega) fun _ => ⟨a, rfl, h⟩
end
end Go.Fw
namespace Go.Proofs.YtfanmpbapabboaaGreatDoor
open Go.RowKit Go.Fw
theorem ai_u8 : AppInfo Tryz.prog 5 1 1 := by
 have h : (Tryz.prog.info? 5).map (fun i => (i.size, i.bytes, i.zero)) = some (1, 1, some (.int .u8 0)) := by kernel_rfl
 obtain ⟨i, hi, h⟩ := Option.map_eq_some_iff.1 h
 injection h with h1 h2
 injection h2 with h2 h3
 exact ⟨i, _, hi, h3, h1, rfl, h2, by decide, by decide⟩
theorem bs1 (b : Int) (w : World) : (Instr.buildSlice 40 1 [(0, Value.int .u8 b)].toArray).run Tryz.prog w = .ok (.slice (some ⟨w.heap.size, 0, none⟩) 1 1) (w.alloc (.cells [Value.int .u8 b].toArray 5)) := by
 obtain ⟨i, z, hi, hz, hk, hzs, hb, _⟩ := ai_u8
 obtain ⟨zc, hzc⟩ : ∃ c, z.cells = #[c] := by
  match h : z.cells with
  | ⟨[]⟩ => simp [h] at hzs
  | ⟨[c]⟩ => exact ⟨c, rfl⟩
  | ⟨_ :: _ :: _⟩ => simp [h] at hzs
 have hr1 : Array.range 1 = #[0] := by decide
 have hc : (Value.int .u8 b).cells = #[Value.int .u8 b] := rfl
 simp [Instr.buildSlice, run_underlying Tryz.underlying40, sizeOf, typeInfo, hi, hk, zeroValue, hz, hzc, Instr.fill, newRow, hr1, hc]
end Go.Proofs.YtfanmpbapabboaaGreatDoor
namespace Go.Fw
open Go.RowKit
theorem Src.dig {P : Program} {w : World} {a : Addr} {d : Dig} (h : Mem w a (digC d)) : Src P w 1 (.slice (some a) 32 32) 32 (bytesC d.1) := Src.slice (by rw [bytesC_length, d.2]) fun _ => ⟨a, rfl, h⟩
theorem run_bs1 {P : Program} {t e : TypeId} {ie : TypeInfo} {z : Value} {v : Value} {cs : List Value} (hu : P.underlying t = some (.slice e)) (hi : P.info? e = some ie) (hz : ie.zero = some z) (h0 : 0 < ie.size) (hsm : ie.size ≤ 16777216) (hv : v.cells = cs.toArray) (hl : cs.length = ie.size) (w : World) :
  (Instr.buildSlice t 1 [(0, v)].toArray).run P w = .ok (.slice (some ⟨w.heap.size, 0, none⟩) 1 1) (w.alloc (.cells cs.toArray e)) := by
 refine run_buildSlice w t e 1 _ _ ie z hu hi hz om_ om_ ?_
 have h := Go.Great.fill_whole (s := ie.size) h0 [v] ((Array.range (1 * ie.size)).map (z.cells[· % z.cells.size]!)) (by intro u hu; simp at hu; subst hu; rw [hv]; simpa using hl) (by simp)
 simpa [hv] using h
theorem flat_length {α : Type} {enc : α → List Value} {k : Nat} (he : ∀ x, (enc x).length = k) : ∀ xs : List α, ((xs.map enc).flatten).length = xs.length * k
 | [] => by simp
 | x :: xs => by simp only [List.map_cons, List.flatten_cons, List.length_append, he, flat_length he xs, List.length_cons, Nat.succ_mul]; omega
theorem flat_at {α : Type} {enc : α → List Value} {k : Nat} (he : ∀ x, (enc x).length = k) : ∀ (xs : List α) (i : Nat) (x : α), xs[i]? = some x → ∀ j v, (enc x)[j]? = some v → ((xs.map enc).flatten)[i * k + j]? = some v
 | [], i, x, h, _, _, _ => by simp at h
 | y :: xs, 0, x, h, j, v, hv => by
  simp at h; subst h
  have hj : j < (enc y).length := (List.getElem?_eq_some_iff.1 hv).1
  simp only [List.map_cons, List.flatten_cons, Nat.zero_mul, Nat.zero_add]
  rw [List.getElem?_append_left hj]; exact hv
 | y :: xs, i + 1, x, h, j, v, hv => by
  have h' : xs[i]? = some x := by simpa using h
  have := flat_at he xs i x h' j v hv
  simp only [List.map_cons, List.flatten_cons]
  rw [List.getElem?_append_right (by rw [he, Nat.succ_mul]; omega), he, show (i + 1) * k + j - k = i * k + j by rw [Nat.succ_mul]; omega]
  exact this
theorem Own.sl {α : Type} {w : World} {e : TypeId} {k : Nat} {v : Value} {enc : α → List Value} {xs : List α} (h : Own w e k v ((xs.map enc).flatten)) (he : ∀ x, (enc x).length = k) (hk : 0 < k) : Sl w enc k v xs := by
 obtain ⟨A, m, c, rfl⟩ := h.lens
 obtain ⟨hm, hn, hl, hmc, hcm⟩ := h.mem A m c rfl
 rw [flat_length he] at hl
 have hlm : xs.length = m := Nat.eq_of_mul_eq_mul_right hk hl
 refine ⟨A, m, c, rfl, hlm, hmc, hcm, fun i x hi => ?_⟩
 have hi' := (List.getElem?_eq_some_iff.1 hi).1
 obtain ⟨a, rfl, hM⟩ := hm om_
 refine ⟨a, rfl, hM.sub (i * k) fun j v hj => flat_at he xs i x hi j v hj⟩
theorem Src.one {P : Program} {w : World} {g k : Nat} {t : TypeId} {cs : List Value} (h : Blk w g t cs) (hl : cs.length = k) : Src P w k (.slice (some ⟨g, 0, none⟩) 1 1) 1 cs := Src.slice om_ fun _ => ⟨_, rfl, h.mem⟩
end Go.Fw
namespace Go.Proofs.YtfanmpbapabboaaGreatDoor
open Go.RowKit Go.Fw
theorem ai_dig : AppInfo Tryz.prog 38 32 32 := by
 have h : (Tryz.prog.info? 38).map (fun i => (i.size, i.bytes, i.zero)) = some (32, 32, some (.agg (digC Dig.zero).toArray)) := by kernel_rfl
 obtain ⟨i, hi, h⟩ := Option.map_eq_some_iff.1 h
 injection h with h1 h2
 injection h2 with h2 h3
 exact ⟨i, _, hi, h3, h1, by show (digC Dig.zero).toArray.size = 32; simp [digC_length], h2, by decide, by decide⟩
theorem ai_op : AppInfo Tryz.prog 89 37 72 := by
 have h : (Tryz.prog.info? 89).map (fun i => (i.size, i.bytes, i.zero)) = some (37, 72, some (.agg (opC ⟨0, false, RefD.zero, 0⟩).toArray)) := by kernel_rfl
 obtain ⟨i, hi, h⟩ := Option.map_eq_some_iff.1 h
 injection h with h1 h2
 injection h2 with h2 h3
 exact ⟨i, _, hi, h3, h1, by show (opC _).toArray.size = 37; simp [opC_length], h2, by decide, by decide⟩
theorem bs1_dig (d : Dig) (w : World) : (Instr.buildSlice 23 1 [(0, digV d)].toArray).run Tryz.prog w = .ok (.slice (some ⟨w.heap.size, 0, none⟩) 1 1) (w.alloc (.cells (digC d).toArray 38)) := by
 obtain ⟨i, z, hi, hz, hk, _⟩ := ai_dig
 exact run_bs1 Tryz.underlying23 hi hz om_ om_ rfl (by rw [digC_length, hk]) w
theorem bs1_op (x : OpD) (w : World) : (Instr.buildSlice 43 1 [(0, opV x)].toArray).run Tryz.prog w = .ok (.slice (some ⟨w.heap.size, 0, none⟩) 1 1) (w.alloc (.cells (opC x).toArray 89)) := by
 obtain ⟨i, z, hi, hz, hk, _⟩ := ai_op
 exact run_bs1 Tryz.underlying43 hi hz om_ om_ rfl (by rw [opC_length, hk]) w
abbrev flatD (ps : List Dig) : List Value := (ps.map digC).flatten
abbrev flatO (os : List OpD) : List Value := (os.map opC).flatten
end Go.Proofs.YtfanmpbapabboaaGreatDoor
namespace Go.Fw
theorem one1 {v : Value} (h : v.oneCell' = true) : ∀ u ∈ [v], u.oneCell' = true := by intro u hu; simp at hu; subst hu; exact h
end Go.Fw
namespace Go.Proofs.YtfanmpbapabboaaGreatDoor
open Go.RowKit Go.Fw
theorem u8_of (n : Nat) : IntKind.u8.wrap (n : Int) = ((UInt8.ofNat n).toNat : Int) := by simp [IntKind.wrap, IntKind.bits, IntKind.signed]
theorem Blk.src1 {w : World} {g : Nat} {b : UInt8} (h : Blk w g 5 [Value.int .u8 (b.toNat : Int)]) : Src Tryz.prog w 1 (.slice (some ⟨g, 0, none⟩) 1 1) 1 (bytesC [b]) := Src.slice (by rfl) fun _ => ⟨_, rfl, h.mem⟩
end Go.Proofs.YtfanmpbapabboaaGreatDoor
/- Calls that may panic; results that lie in cells; stores and loads in held regions; slices of slices. No condition; no program. -/
namespace Go.Fw
open Go.RowKit
section
variable {P : Program} {n : NN} {Φ : Exit → Fr → World → Prop} {fr : Fr} {w : World}
theorem WL.callOr {ops : Array Oper} {rest : List Oper} {dst : Option Nat} {f : FuncId} {args : List Operand} {tys : Array TypeId} {ty : TypeId} {pos : String} {aft : Array Edge} {vs : List Value} {fn : Func}
  {R : Value → World → Prop} {S : List PanicEntry → World → Prop}
  (hf : P.funcs[f]? = some fn) (hb : fn.body.isNone = false) (hn : (fn.name == "runtime.NumGoroutine") = false)
  (he : evs fr args = some vs) (hC : Calls P f vs.toArray w (RetOr R S)) (hd : ∀ d, dst = some d → d < n.1)
  (hp : ∀ ch w', S ch w' → Φ (.panic ch) fr w')
  (h : ∀ v w', R v w' → WL P ops n Φ rest (match dst with | some d => (d, v) :: fr | none => fr) w') :
  WL P ops n Φ (⟨dst, .call { callee := .value (.func f), args := args.toArray, argTypes := tys }, ty, pos, aft, none⟩ :: rest) fr w := fun a ha =>
 wpList_plain rfl fun K hK => by
  have hrun : (execOp a.eval ⟨dst, .call { callee := .value (.func f), args := args.toArray, argTypes := tys }, ty, pos, aft, none⟩).run P w = .ok (.enter f vs.toArray) w := by
   have := ha.evs he
   simp [execOp, resolve, invoke, Deferred.ofValue, Act.eval, this, run_callFunc hf hb hn]
  unfold Oper.wp
  rw [hrun]
  refine hC.mono fun e w' hr => ?_
  cases e with
  | returned v =>
   refine hK _ _ (h v w' hr _ ?_)
   cases dst with
   | none => exact ha
   | some d => exact ha.put (hd d rfl) v
  | panicked ch => exact ⟨fr, ha, hp ch w' hr⟩
  | outgrown => exact hr.elim
theorem WL.panicI {ops : Array Oper} {rest : List Oper} {x : Operand} {t : TypeId} {v : Value} {ty : TypeId} {pos : String} {aft : Array Edge} (hx : ev fr x = some (.iface t v)) (h : Φ (.panic [{ v := .iface t v, recovered := false }]) fr w) :
  WL P ops n Φ (⟨none, .panic x, ty, pos, aft, none⟩ :: rest) fr w := fun a ha =>
 wpList_plain rfl fun K hK => by
  have hrun : (execOp a.eval ⟨none, .panic x, ty, pos, aft, none⟩).run P w = .halt (.panic (.iface t v)) w := by
   simp [execOp, ha.ev hx, run_panic_iface]
  unfold Oper.wp
  rw [hrun]
  exact ⟨fr, ha, h⟩
theorem Y.nilCheck {x : Operand} {ty : TypeId} {a : Addr} (hx : ev fr x = some (.pointer (some a))) : Yw P n fr (.nilCheck x) ty w (.pointer (some a)) w := fun b o' ho _ ha => by
 simp [execOp, ho, ha.ev hx]
theorem Y.slice_sl {x lo hi : Operand} {t e ty : TypeId} {a : Addr} {m c k i j : Nat} {ki kj : IntKind} (hT : P.underlying t = some (.slice e)) (hx : ev fr x = some (.slice (some a) m c)) (hlo : ev fr lo = some (.int ki (i : Int))) (hhi : ev fr hi = some (.int kj (j : Int)))
  (hS : (P.info? e).map (·.size) = some k) (h1 : i ≤ j) (h2 : j ≤ c) : Yw P n fr (.slice t x (some lo) (some hi) none) ty w (.slice (some (if c = i then a else a.add (i * k))) (j - i) (c - i)) w := fun b o' ho _ ha => by
 have e1 : (0 : Int) ≤ (i : Int) := by omega
 have e2 : (0 : Int) ≤ (j : Int) := by omega
 simp [execOp, ho, ha.ev hx, ha.ev hlo, ha.ev hhi, Instr.sliceAt, Instr.slice, run_underlying hT, Instr.sliceBounds, Instr.sliceBound, asIntOf, e1, e2, h1, h2, fw_sizeOf hS]
 split <;> rfl
theorem Y.toArr {x : Operand} {t e ty : TypeId} {A : Option Addr} {m c k : Nat} (hT : P.underlying t = some (.array k e)) (hx : ev fr x = some (.slice A m c)) (h : k ≤ m) : Yw P n fr (.sliceToArrayPointer t x) ty w (.pointer A) w := fun b o' ho _ ha => by
 simp [execOp, ho, ha.ev hx, Instr.arrayAt, run_underlying hT, Nat.not_lt.2 h]
variable {ops : Array Oper} {S : World → Prop} {fuel : Nat} {listed : Array Bool}
theorem RS.val {i d : Nat} {o : Op} {ty : TypeId} {pos : String} {aft : Array Edge} {v : Value}
  (hi : ops[i]? = some ⟨some d, o, ty, pos, aft, none⟩) (hy : Yw P n fr o ty w v w) (hd : d < n.1)
  (h : S w ∧ RH P ops S n Φ fuel (listed.setIfInBounds i true) ((d, v) :: fr) w) : RS P ops S n Φ fuel listed i fr w := fun a ha => by
 have hr := hy a ⟨some d, o, ty, pos, aft, none⟩ rfl rfl ha
 unfold wpOp
 rw [hi]
 simp only [Region.wanted, if_true]
 refine .inl ?_
 unfold Oper.wp
 rw [hr]
 exact ⟨h.1, h.2 _ (ha.put hd v)⟩
theorem RS.callOr {i : Nat} {dst : Option Nat} {f : FuncId} {args : List Operand} {tys : Array TypeId} {ty : TypeId} {pos : String} {aft : Array Edge} {vs : List Value} {fn : Func} {R : Value → World → Prop} {T : List PanicEntry → World → Prop}
  (hi : ops[i]? = some ⟨dst, .call { callee := .value (.func f), args := args.toArray, argTypes := tys }, ty, pos, aft, none⟩)
  (hf : P.funcs[f]? = some fn) (hb : fn.body.isNone = false) (hn : (fn.name == "runtime.NumGoroutine") = false)
  (he : evs fr args = some vs) (hC : Calls P f vs.toArray w (RetOr R T)) (hd : ∀ d, dst = some d → d < n.1)
  (hp : ∀ ch w', T ch w' → Φ (.panic ch) fr w')
  (h : ∀ v w', R v w' → S w' ∧ RH P ops S n Φ fuel (listed.setIfInBounds i true) (match dst with | some d => (d, v) :: fr | none => fr) w') : RS P ops S n Φ fuel listed i fr w := fun a ha => by
 have hrun : (execOp a.eval ⟨dst, .call { callee := .value (.func f), args := args.toArray, argTypes := tys }, ty, pos, aft, none⟩).run P w = .ok (.enter f vs.toArray) w := by
  have := ha.evs he
  simp [execOp, resolve, invoke, Deferred.ofValue, Act.eval, this, run_callFunc hf hb hn]
 unfold wpOp
 rw [hi]
 simp only [Region.wanted, if_true]
 refine .inl ?_
 unfold Oper.wp
 rw [hrun]
 refine hC.mono fun e w' hr => ?_
 cases e with
 | returned v =>
  obtain ⟨h1, h2⟩ := h v w' hr
  refine ⟨h1, h2 _ ?_⟩
  cases dst with
  | none => exact ha
  | some d => exact ha.put (hd d rfl) v
 | panicked ch => exact ⟨fr, ha, hp ch w' hr⟩
 | outgrown => exact hr.elim
theorem RS.store {i : Nat} {t e : TypeId} {x y : Operand} {ty : TypeId} {pos : String} {aft : Array Edge} {v : Value} {g : Nat} {pre old post new : List Value} {A : Addr}
  (hi : ops[i]? = some ⟨none, .store t x y, ty, pos, aft, none⟩)
  (hx : ev fr x = some (.pointer (some A))) (hA : A = ⟨g, pre.length, none⟩) (hy : ev fr y = some v) (hv : v.cells = new.toArray) (hS : (P.info? t).map (·.size) = some new.length)
  (hb : Blk w g e (pre ++ old ++ post)) (hl : new.length = old.length) (h1 : ∀ u ∈ new, u.oneCell' = true)
  (h : ∀ w', Chg (· = g) w w' → Blk w' g e (pre ++ new ++ post) → S w' ∧ RH P ops S n Φ fuel (listed.setIfInBounds i true) fr w') : RS P ops S n Φ fuel listed i fr w := fun a ha => by
 obtain ⟨w', hst, hc, hb'⟩ := run_storeCells_blk (P := P) hb hl h1
 have hrun : (execOp a.eval ⟨none, .store t x y, ty, pos, aft, none⟩).run P w = .ok .skip w' := by
  simp [execOp, ha.ev hx, ha.ev hy, Instr.storeAt, Instr.sureAddr, storeVar, fw_sizeOf hS, hv, hA, hst]
 obtain ⟨h1, h2⟩ := h w' hc hb'
 unfold wpOp
 rw [hi]
 simp only [Region.wanted, if_true]
 refine .inl ?_
 unfold Oper.wp
 rw [hrun]
 exact ⟨h1, h2 _ ha⟩
@[reducible] def DoneG (D : Fr → World → Prop) (S : List PanicEntry → World → Prop) : Exit → Fr → World → Prop
 | .normal, fr, w => D fr w
 | .ret, fr, w => D fr w
 | .panic ch, _, w => S ch w
 | _, _, _ => False
theorem calls_of_CWG {f : FuncId} {fn : Func} {c : Code} {args : List Value} {R : Value → World → Prop} {S : List PanicEntry → World → Prop} (m : Nat) (D : Fr → World → Prop) (fr0 : Fr)
  (hf : P.funcs[f]? = some fn) (hb : fn.body = some c) (hm : fn.ntmps = m) (hr : ∀ a fr w, Rep (m, [], none) a fr → D fr w → ∃ v, (results fn a.tmps).run P w = .ok v w ∧ R v w)
  (hsz : args.length ≤ m) (hargs : ∀ t v, fr0.get t = some v → args[t]? = some v)
  (h : CW P c (m, [], none) (DoneG D S) fr0 w) : Calls P f args.toArray w (RetOr R S) := by
 refine calls_of_wp hf hb ?_
 have hrep : Rep (m, [], none) { tmps := args.toArray ++ Array.replicate (fn.ntmps - args.toArray.size) undef, defers := [] } fr0 := by
  refine ⟨by simp [hm]; omega, rfl, fun t v hv => ?_⟩
  have h1 := hargs t v hv
  have hlt : t < args.length := (List.getElem?_eq_some_iff.1 h1).1
  simpa [Array.getElem?_append, hlt] using (List.getElem?_eq_some_iff.1 h1).2
 refine wp_mono ((CW.plain rfl).1 h _ hrep) ?_
 rintro e a' w' ⟨fr', hf', hp⟩
 cases e with
 | normal => obtain ⟨v, hv, hR⟩ := hr _ _ _ hf' hp; exact ⟨hf'.defers, v, hv, hR⟩
 | ret => obtain ⟨v, hv, hR⟩ := hr _ _ _ hf' hp; exact ⟨hf'.defers, v, hv, hR⟩
 | exit id => exact hp
 | goto l => exact hp
 | panic ch => exact ⟨hf'.defers, hp⟩
 | outgrown => exact hp.elim
@[reducible] def Cell1 (t m : Nat) (R : Value → World → Prop) (fr : Fr) (w : World) : Prop := ∃ a cs, fr.get t = some (.pointer (some a)) ∧ Mem w a cs ∧ cs.length = m ∧ R (.agg cs.toArray) w
theorem res_cell {fn : Func} {a : Act} {t m : Nat} {ty : TypeId} {d : TypeDesc} {R : Value → World → Prop} (hr : fn.results = #[.cell t ty]) (hT : P.underlying ty = some d) (hd : notAgg d = false) (hS : (P.info? ty).map (·.size) = some m)
  {fr : Fr} {w : World} (ha : Rep n a fr) (hD : Cell1 t m R fr w) : ∃ v, (results fn a.tmps).run P w = .ok v w ∧ R v w := by
 obtain ⟨p, cs, hp, hm, hl, hR⟩ := hD
 have h1 := run_loadVarA (P := P) hT hd (by rw [hl]; exact hS) hm
 have e := ha.get t _ hp
 refine ⟨_, ?_, hR⟩
 simp [results, hr, e, asAddr, h1]
theorem calls_of_CWc_or {f : FuncId} {fn : Func} {c : Code} {args : List Value} {R : Value → World → Prop} {S : List PanicEntry → World → Prop} (m t k : Nat) (fr0 : Fr) {ty : TypeId} {d : TypeDesc}
  (hf : P.funcs[f]? = some fn) (hb : fn.body = some c) (hm : fn.ntmps = m) (hr : fn.results = #[.cell t ty]) (hT : P.underlying ty = some d) (hd : notAgg d = false) (hS : (P.info? ty).map (·.size) = some k)
  (hsz : args.length ≤ m) (hargs : ∀ t v, fr0.get t = some v → args[t]? = some v)
  (h : CW P c (m, [], none) (DoneG (Cell1 t k R) S) fr0 w) : Calls P f args.toArray w (RetOr R S) :=
 calls_of_CWG m _ fr0 hf hb hm (fun a fr w ha hD => res_cell hr hT hd hS ha hD) hsz hargs h
theorem calls_of_CWc {f : FuncId} {fn : Func} {c : Code} {args : List Value} {R : Value → World → Prop} (m t k : Nat) (fr0 : Fr) {ty : TypeId} {d : TypeDesc}
  (hf : P.funcs[f]? = some fn) (hb : fn.body = some c) (hm : fn.ntmps = m) (hr : fn.results = #[.cell t ty]) (hT : P.underlying ty = some d) (hd : notAgg d = false) (hS : (P.info? ty).map (·.size) = some k)
  (hsz : args.length ≤ m) (hargs : ∀ t v, fr0.get t = some v → args[t]? = some v)
  (h : CW P c (m, [], none) (DoneG (Cell1 t k R) (fun _ _ => False)) fr0 w) : Calls P f args.toArray w (Ret R) :=
 (calls_of_CWc_or m t k fr0 hf hb hm hr hT hd hS hsz hargs h).mono fun e w' he => by
  cases e with
  | returned v => exact he
  | panicked ch => exact he.elim
  | outgrown => exact he.elim
def By (w : World) (v : Value) (bs : List UInt8) : Prop := ∃ A m c, v = .slice A m c ∧ bs.length = m ∧ m ≤ c ∧ c ≤ maxLen ∧ (0 < m → ∃ a, A = some a ∧ Mem w a (bytesC bs)) ∧ (A = none → m = 0)
theorem By.chg {T : Nat → Prop} {w w' : World} {v : Value} {bs : List UInt8} (h : By w v bs) (hc : Chg T w w') (hs : bs ≠ [] → ∀ g, v.ownBlock = some g → ¬ T g) : By w' v bs := by
 obtain ⟨A, m, c, rfl, hl, hmc, hcm, hA, hn⟩ := h
 refine ⟨A, m, c, rfl, hl, hmc, hcm, fun h0 => ?_, hn⟩
 obtain ⟨a, rfl, hm⟩ := hA h0
 exact ⟨a, rfl, hm.chg hc (hs (by rintro rfl; simp at hl; omega) _ rfl)⟩
theorem By.ext {w w' : World} {v : Value} {bs : List UInt8} (h : By w v bs) (hc : Ext w w') : By w' v bs := h.chg hc fun _ _ _ f => f
theorem Own.by {e : TypeId} {v : Value} {bs : List UInt8} (h : Own w e 1 v (bytesC bs)) : By w v bs := by
 obtain ⟨A, m, c, rfl⟩ := h.lens
 obtain ⟨hm, hn, hl, hmc, hcm⟩ := h.mem A m c rfl
 rw [bytesC_length] at hl
 exact ⟨A, m, c, rfl, by omega, hmc, hcm, hm, hn⟩
end
@[reducible] def jumpF (l : Nat) (J : Fr → World → Prop) (Φ : Exit → Fr → World → Prop) : Exit → Fr → World → Prop
 | .goto l', f, w => l' = l ∧ J f w
 | .normal, f, w => Φ .normal f w
 | .exit id, f, w => Φ (.exit id) f w
 | .ret, f, w => Φ .ret f w
 | .panic ch, f, w => Φ (.panic ch) f w
 | .outgrown, f, w => Φ .outgrown f w
theorem CW.scope {P : Program} {n : NN} {Φ : Exit → Fr → World → Prop} {fr : Fr} {w : World} {c tail : Code} {X : Type} (l : Nat) (g : X → Fr) (W : X → World → Prop) (μ : X → Nat) (hf : findLabel c l = some (.seq .skip tail))
  (T : ∀ x w, W x w → CW P tail n (jumpF l (fun f w => ∃ y, μ y < μ x ∧ Fr.le (g y) f ∧ W y w) Φ) (g x) w)
  (first : (∀ f w x, Fr.le (g x) f → W x w → CW P (.seq (.label l) tail) n (jumpF l (fun f w => ∃ y, Fr.le (g y) f ∧ W y w) Φ) f w) → CW P c n (jumpF l (fun f w => ∃ y, Fr.le (g y) f ∧ W y w) Φ) fr w) (hn0 : n.2.2 = none := by rfl) : CW P (.scope c) n Φ fr w := by
 have hT : ∀ f w x, Fr.le (g x) f → W x w → CW P tail n (jumpF l (fun f w => ∃ y, Fr.le (g y) f ∧ W y w) Φ) f w := fun f w x hl hw =>
  CW.weaken hl (CW.mono (T x w hw) fun e f w hp => by
   cases e with
   | goto l' => obtain ⟨h1, y, _, h2⟩ := hp; exact ⟨h1, y, h2⟩
   | _ => exact hp)
 have hT' : ∀ f w x, Fr.le (g x) f → W x w → CW P (.seq (.label l) tail) n (jumpF l (fun f w => ∃ y, Fr.le (g y) f ∧ W y w) Φ) f w := fun f w x hl hw =>
  CW.seq fun K hK => CW.label (hK _ _ (hT f w x hl hw))
 refine (CW.plain hn0).2 fun a ha => ?_
 intro b k cs
 have hg : gotoIn l (.inScope c :: k) = some (.code (.seq .skip tail) :: .inScope c :: k) := by simp [gotoIn, hf]
 have key : ∀ m x a w, μ x = m → Rep n a (g x) → W x w → ∃ e a' w', lift n Φ e a' w' ∧ Arrives P (lone (b.at a (.code (.seq .skip tail) :: .inScope c :: k)) cs w) b k cs e a' w' := by
  intro m
  induction m using Nat.strongRecOn with
  | _ m ih =>
   intro x a w hn hr hW
   have hs : CW P (.seq .skip tail) n (jumpF l (fun f w => ∃ y, μ y < μ x ∧ Fr.le (g y) f ∧ W y w) Φ) (g x) w := CW.seq fun K hK => CW.skip (hK _ _ (T x w hW))
   obtain ⟨e, a₁, w₁, ⟨f, hf1, hp⟩, harr⟩ := (CW.plain hn0).1 hs a hr b (.inScope c :: k) cs
   cases e with
   | normal => exact ⟨.normal, a₁, w₁, ⟨f, hf1, hp⟩, Steps.trans harr (.one step_inScope)⟩
   | exit id => exact ⟨.exit id, a₁, w₁, ⟨f, hf1, hp⟩, fun k' hk => harr k' (by simp [exitTo, hk])⟩
   | goto l' =>
    obtain ⟨rfl, y, hlt, hl, hW'⟩ := hp
    obtain ⟨e₂, a₂, w₂, hq₂, harr₂⟩ := ih _ (hn ▸ hlt) y a₁ w₁ rfl (hf1.weaken hl) hW'
    exact ⟨e₂, a₂, w₂, hq₂, .of_steps (harr _ hg) harr₂⟩
   | ret => exact ⟨_, a₁, w₁, ⟨f, hf1, hp⟩, harr⟩
   | panic ch => exact ⟨_, a₁, w₁, ⟨f, hf1, hp⟩, harr⟩
   | outgrown => exact ⟨_, a₁, w₁, ⟨f, hf1, hp⟩, harr⟩
 obtain ⟨e, a₁, w₁, ⟨f, hf1, hp⟩, harr⟩ := (CW.plain hn0).1 (first hT') a ha b (.inScope c :: k) cs
 cases e with
 | normal => exact ⟨.normal, a₁, w₁, ⟨f, hf1, hp⟩, .head step_scope (Steps.trans harr (.one step_inScope))⟩
 | exit id => exact ⟨.exit id, a₁, w₁, ⟨f, hf1, hp⟩, fun k' hk => .head step_scope (harr k' (by simp [exitTo, hk]))⟩
 | goto l' =>
  obtain ⟨rfl, y, hl, hW'⟩ := hp
  obtain ⟨e₂, a₂, w₂, hq₂, harr₂⟩ := key _ y a₁ w₁ rfl (hf1.weaken hl) hW'
  exact ⟨e₂, a₂, w₂, hq₂, .of_steps (.head step_scope (harr _ hg)) harr₂⟩
 | ret => exact ⟨_, a₁, w₁, ⟨f, hf1, hp⟩, .of_steps (.one step_scope) harr⟩
 | panic ch => exact ⟨_, a₁, w₁, ⟨f, hf1, hp⟩, .of_steps (.one step_scope) harr⟩
 | outgrown => exact ⟨_, a₁, w₁, ⟨f, hf1, hp⟩, .of_steps (.one step_scope) harr⟩
section
variable {P : Program} {n : NN} {fr : Fr} {w : World} {ty : TypeId}
theorem Y.and_k {x y : Operand} {k : IntKind} {p q : Int} {t t' : TypeId} {r : Int} (hx : ev fr x = some (.int k p)) (hy : ev fr y = some (.int k q)) (hr : k.wrap ((BitVec.ofInt k.bits p &&& BitVec.ofInt k.bits q).toNat : Int) = r) : Yw P n fr (.binOp .and t x y t') ty w (.int k r) w :=
 Y.bin hx hy (by simp [eqGuard_at_int]) (by
  have e : binOp .and t (.int k p) (.int k q) = pure (.int k r) := by simp only [binOp, ne_eq, not_true_eq_false, if_false, Op.intBits, hr]
  rw [e]; rfl)
theorem Y.shl {x y : Operand} {k k' : IntKind} {p q r : Int} {t t' : TypeId} (hx : ev fr x = some (.int k p)) (hy : ev fr y = some (.int k' q)) (hq : 0 ≤ q) (hr : k.wrap (p * (2 ^ (min q.toNat k.bits))) = r) : Yw P n fr (.binOp .shl t x y t') ty w (.int k r) w :=
 Y.bin hx hy (by simp [eqGuard_at_int]) (by simp [binOp, Op.shift, Int.not_lt.2 hq, hr])
end
theorem and127 (b : UInt8) : IntKind.u8.wrap ((BitVec.ofInt IntKind.u8.bits (b.toNat : Int) &&& BitVec.ofInt IntKind.u8.bits 127).toNat : Int) = ((b.toNat % 128 : Nat) : Int) := by
 have h : ∀ m, m < 256 → IntKind.u8.wrap ((BitVec.ofInt IntKind.u8.bits ((m : Nat) : Int) &&& BitVec.ofInt IntKind.u8.bits 127).toNat : Int) = ((m % 128 : Nat) : Int) := by decide +kernel
 exact h _ b.toNat_lt
theorem wrap_nat {n : Nat} (h : n < 9223372036854775808) : IntKind.i64.wrap (n : Int) = (n : Int) := IntWalk.i64_in _ o2_
theorem toNat_of {n : Nat} (h : n < 18446744073709551616) : (BitVec.ofInt 64 (n : Int)).toNat = n := by
 rw [BitVec.toNat_ofInt]; omega
theorem pow7 (i : Nat) : 2 ^ (7 * i) = 128 ^ i := by rw [Nat.pow_mul]
theorem low_high {s y i : Nat} (hs : s < 128 ^ i) (hy : y < 128) (hi : i ≤ 8) : s + y * 128 ^ i < 128 ^ (i + 1) ∧ s + y * 128 ^ i < 9223372036854775808 := by
 have h1 : s + y * 128 ^ i < 128 ^ (i + 1) := by
  have := Nat.mul_le_mul_right (128 ^ i) (Nat.le_sub_one_of_lt hy)
  rw [Nat.pow_succ]; omega
 refine ⟨h1, Nat.lt_of_lt_of_le h1 ?_⟩
 have := Nat.pow_le_pow_right (n := 128) de_ (Nat.add_le_add_right hi 1)
 simpa using this
theorem shl_at {y i : Nat} (hy : y < 128) (hi : i ≤ 8) : IntKind.i64.wrap ((y : Int) * (2 ^ (min (7 * (i : Int)).toNat IntKind.i64.bits))) = ((y * 128 ^ i : Nat) : Int) := by
 have e : min (7 * (i : Int)).toNat IntKind.i64.bits = 7 * i := by show min _ 64 = _; omega
 have h := (low_high (s := 0) (Nat.pow_pos de_) hy hi).2
 have e2 : (y : Int) * (2 ^ (7 * i)) = ((y * 128 ^ i : Nat) : Int) := by rw [← pow7]; simp
 rw [e, e2, wrap_nat om_]
theorem or_at {s y i : Nat} (hs : s < 128 ^ i) (hy : y < 128) (hi : i ≤ 8) : IntKind.i64.wrap ((BitVec.ofInt IntKind.i64.bits (s : Int) ||| BitVec.ofInt IntKind.i64.bits ((y * 128 ^ i : Nat) : Int)).toNat : Int) = ((s + y * 128 ^ i : Nat) : Int) := by
 have h := (low_high hs hy hi).2
 show IntKind.i64.wrap ((BitVec.ofInt 64 (s : Int) ||| BitVec.ofInt 64 ((y * 128 ^ i : Nat) : Int)).toNat : Int) = _
 rw [BitVec.toNat_or, toNat_of om_, toNat_of om_]
 have e : s ||| y * 128 ^ i = s + y * 128 ^ i := by
  rw [← pow7] at hs ⊢
  have := Nat.two_pow_add_eq_or_of_lt hs y
  rw [Nat.or_comm, Nat.mul_comm, ← this, Nat.add_comm]
 rw [e, wrap_nat h]
theorem Y.conv_nat {P : Program} {n : NN} {fr : Fr} {w : World} {ty : TypeId} {x : Operand} {k : IntKind} {m : Nat} {s d : TypeId} {ds : TypeDesc} (hs : P.underlying s = some ds) (hd : P.underlying d = some (.int .i64)) (hx : ev fr x = some (.int k (m : Int))) (h : m < 9223372036854775808) :
  Yw P n fr (.convert s d x) ty w (.int .i64 (m : Int)) w := by
 have := Y.conv_int (n := n) (w := w) (ty := ty) hs hd hx
 rwa [wrap_nat h] at this
theorem Mem.byteAt {w : World} {a : Addr} {bs : List UInt8} {j : Nat} {b : UInt8} {z : Int} (h : Mem w a (bytesC bs)) (hb : bs[j]? = some b) (hz : z = (j : Int)) : w.cell? (a.add (z.toNat * 1)) = some (.int .u8 (b.toNat : Int)) := by
 subst hz
 rw [Int.toNat_natCast, Nat.mul_one]
 exact h j _ (bytesC_get hb)
theorem Y.slice_slI {P : Program} {n : NN} {fr : Fr} {w : World} {x lo hi : Operand} {t e ty : TypeId} {a : Addr} {m c k i j : Nat} {ki kj : IntKind} {zi zj : Int} (hT : P.underlying t = some (.slice e)) (hx : ev fr x = some (.slice (some a) m c)) (hlo : ev fr lo = some (.int ki zi)) (hhi : ev fr hi = some (.int kj zj))
  (hS : (P.info? e).map (·.size) = some k) (hi' : zi = (i : Int)) (hj' : zj = (j : Int)) (h1 : i ≤ j) (h2 : j ≤ c) : Yw P n fr (.slice t x (some lo) (some hi) none) ty w (.slice (some (if c = i then a else a.add (i * k))) (j - i) (c - i)) w := by
 subst hi'; subst hj'; exact Y.slice_sl hT hx hlo hhi hS h1 h2
section place
variable {w : World} {a : Addr} {bv pv ov : Value} {at_ : Int} {rest : List Value} {au no : ByteArray}
theorem Mem.place0 (h : Mem w a (bv :: .int .i64 at_ :: rest)) : w.cell? (a.add 0) = some bv := h.cell 0 rfl
theorem Mem.place1 (h : Mem w a (bv :: .int .i64 at_ :: rest)) : w.cell? (a.add 1) = some (.int .i64 at_) := h.cell 1 rfl
def rdC (bv : Value) (at_ : Int) (pv : Value) (au no : ByteArray) (ov : Value) : List Value := bv :: .int .i64 at_ :: comC pv au no ov
theorem Mem.reader0 (h : Mem w a (rdC bv at_ pv au no ov)) : Mem w (a.add 0) (rdC bv at_ pv au no ov) := by rw [show a.add 0 = a by simp [Addr.add]]; exact h
theorem Mem.reader1 (h : Mem w a (rdC bv at_ pv au no ov)) : Mem w (a.add 2) (comC pv au no ov) := h.sub 2 fun j v hj => by
 rw [Nat.add_comm]; exact hj
end place
end Go.Fw
namespace Go.Fw
open Go.RowKit
theorem By.slMem {w : World} {a : Addr} {m c i j : Nat} {bs : List UInt8} (h : Mem w a (bytesC bs)) (hl : bs.length = m) (hc : m ≤ c) (h1 : i < j) (h2 : j ≤ m) : Mem w (if c = i then a else a.add (i * 1)) (bytesC ((bs.drop i).take (j - i))) := by
 rw [if_neg om_, Nat.mul_one]
 refine h.sub i fun k v hk => ?_
 rw [bytesC, List.getElem?_map] at hk ⊢
 rw [List.getElem?_take] at hk
 split at hk
 ·
  rwa [List.getElem?_drop] at hk
 ·
  cases hk
end Go.Fw
/- Calls that are put off: from a frame without to a frame with one. No condition; no program. -/
namespace Go.Fw
open Go.RowKit
section
variable {P : Program} {n : NN} {fr : Fr} {w : World}
theorem CW.wp {c : Code} {Φ : Exit → Fr → World → Prop} {Q : Exit → Act → World → Prop} {a : Act} (h : CW P c n Φ fr w) (ha : Rep n a fr) (hQ : ∀ e f a' w', Rep n a' f → Φ e f w' → Q e a' w') (hn0 : n.2.2 = none := by rfl) : c.wp P Q a w :=
 wp_mono ((CW.plain hn0).1 h a ha) fun e a' w' ⟨f, hf, hp⟩ => hQ e f a' w' hf hp
theorem wp_defer {id d : Nat} {f : Fn} {xs : List Operand} {vs : List Value} {ty ty' : TypeId} {pos pos' : String} {aft aft' : Array Edge} {tys : Array TypeId} {y : Code} {Q : Exit → Act → World → Prop} {a : Act}
  (ha : Rep n a fr) (hx : evs fr xs = some vs) (hd : d < n.1)
  (h : ∀ a', Rep (n.1, ⟨.fn f vs.toArray, #[]⟩ :: n.2.1, n.2.2) a' ((d, .func f #[] vs.toArray) :: fr) → y.wp P Q a' w) :
  (Code.seq (.region id [⟨some d, .makeFunc f #[] xs.toArray, ty, pos, aft, none⟩, ⟨none, .defer { callee := .value (.tmp d), args := #[], argTypes := tys }, ty', pos', aft', none⟩].toArray false) y).wp P Q a w := by
 refine wp_seq (wp_region_lit ?_)
 refine wpList_plain rfl fun K hK => ?_
 have h1 : (execOp a.eval ⟨some d, .makeFunc f #[] xs.toArray, ty, pos, aft, none⟩).run P w = .ok (.value (.func f #[] vs.toArray)) w := by
  have := ha.evs hx
  simp [execOp, Instr.makeFunc, this]
 unfold Oper.wp
 rw [h1]
 refine hK _ _ ?_
 have ha1 := ha.put hd (.func f #[] vs.toArray)
 refine wpList_plain rfl fun K2 hK2 => ?_
 have hg : (a.put (some d) (.func f #[] vs.toArray)).eval (.tmp d) = .func f #[] vs.toArray := ha1.ev (by simp [ev, Fr.get])
 have h2 : (execOp (a.put (some d) (.func f #[] vs.toArray)).eval ⟨none, .defer { callee := .value (.tmp d), args := #[], argTypes := tys }, ty', pos', aft', none⟩).run P w = .ok (.defer ⟨.fn f vs.toArray, #[]⟩) w := by
  simp [execOp, resolve, hg, Deferred.ofValue]
 unfold Oper.wp
 rw [h2]
 refine hK2 _ _ ?_
 refine wpList_nil ?_
 exact h _ ⟨by simpa [Act.put] using ha1.size, by simp [Act.put, ha.defers], fun t v hv => by simpa [Act.put] using ha1.get t v hv⟩
end
end Go.Fw
/- The plain law: what the functions compute, on Lean's data. No condition; no program. -/
namespace Go.Pl
open Go.Fw
def rootB (r : RefD) : Bool := decide (r = RefD.zero)
def refB (r : RefD) : Bool := if r.own then decide (r.c = Dig.zero) && decide (0 < r.n) else rootB r || (decide (0 < r.n) && decide (r.n ≤ 2000))
def refKind (r : RefD) : Int := if r.own then (if r.c ≠ Dig.zero ∨ r.n < 1 then 3 else 1) else if 1 ≤ r.n ∧ r.n ≤ 2000 then 2 else if r.n = 0 ∧ r.c = Dig.zero then 0 else 3
def lessB (a b : Dig) : Bool := Op.bytesLess a.1 b.1
theorem bytesLess_self : ∀ l : List UInt8, Op.bytesLess l l = false
 | [] => rfl
 | a :: l => by simp [Op.bytesLess, bytesLess_self l]
theorem take_succ {α : Type} {l : List α} {i : Nat} {x : α} (h : l[i]? = some x) : l.take (i + 1) = l.take i ++ [x] := by
 rw [List.take_add_one, h]; rfl
theorem bytesLess_at : ∀ {a b : List UInt8} {i : Nat} {x y : UInt8}, a.take i = b.take i → a[i]? = some x → b[i]? = some y → x ≠ y → Op.bytesLess a b = decide (x < y)
 | x' :: a, y' :: b, 0, x, y, _, hx, hy, hne => by
  simp at hx hy
  subst hx; subst hy
  simp [Op.bytesLess, hne]
 | x' :: a, y' :: b, i + 1, x, y, ht, hx, hy, hne => by
  simp at hx hy
  simp only [List.take_succ_cons, List.cons.injEq] at ht
  obtain ⟨rfl, ht⟩ := ht
  have := bytesLess_at ht hx hy hne
  have hlt : ¬ x' < x' := by simp
  simp [Op.bytesLess, this, hlt]
 | [], _, i, x, y, _, hx, _, _ => by simp at hx
 | _ :: _, [], i, x, y, _, _, hy, _ => by simp at hy
def kindAt (l : List OpD) (k : Nat) : Int := ((l[k]?).map (·.kind)).getD 0
def rightX (l : List OpD) (i : Int) (x : OpD) : Int :=
 if refB x.at_ = false then 1
 else if x.kind = 1 ∧ (x.left = true ∧ rootB x.at_ = true) then 1
 else if x.kind = 2 ∧ (x.left = true ∨ (x.byte.toNat : Int) ≠ 0 ∨ rootB x.at_ = true) then 1
 else if x.kind ≠ 1 ∧ x.kind ≠ 2 then 1
 else if x.at_.own = true ∧ (i ≤ x.at_.n ∨ kindAt l (x.at_.n - 1).toNat ≠ 1) then 5 else 0
def rightI (l : List OpD) (i : Int) : Int := if i < 1 ∨ (l.length : Int) < i then 9 else match l[(i - 1).toNat]? with
 | some x => rightX l i x
 | none => 9
theorem rightI_of {l : List OpD} {i : Int} {x : OpD} (h : ¬ (i < 1 ∨ (l.length : Int) < i)) (hx : l[(i - 1).toNat]? = some x) : rightI l i = rightX l i x := by
 rw [rightI, if_neg h, hx]
theorem root_iff (r : RefD) : rootB r = true ↔ r.own = false ∧ r.c = Dig.zero ∧ r.n = 0 := by
 obtain ⟨o, c, n⟩ := r
 simp [rootB, RefD.zero]
theorem rk3 (r : RefD) : refKind r = 3 ↔ refB r = false := by
 obtain ⟨o, c, n⟩ := r
 cases o <;> by_cases h1 : c = Dig.zero <;> simp [refKind, refB, rootB, RefD.zero, h1] <;> (repeat' split) <;> first | omega | (simp_all; done) | (simp_all; omega)
theorem rk0 (r : RefD) : refKind r = 0 ↔ rootB r = true := by
 obtain ⟨o, c, n⟩ := r
 cases o <;> by_cases h1 : c = Dig.zero <;> simp [refKind, rootB, RefD.zero, h1] <;> (repeat' split) <;> first | omega | (simp_all; done) | (simp_all; omega)
theorem rk1 (r : RefD) : refKind r = 1 ↔ r.own = true ∧ refB r = true := by
 obtain ⟨o, c, n⟩ := r
 cases o <;> by_cases h1 : c = Dig.zero <;> simp [refKind, refB, rootB, RefD.zero, h1] <;> (repeat' split) <;> first | omega | (simp_all; done) | (simp_all; omega)
theorem rightX_alt (l : List OpD) (i : Int) (x : OpD) : rightX l i x =
  if refKind x.at_ = 3 ∨ (¬ (x.kind = 1 ∧ ¬ (refKind x.at_ = 0 ∧ x.left = true)) ∧ ¬ (x.kind = 2 ∧ refKind x.at_ ≠ 0 ∧ x.left = false ∧ (x.byte.toNat : Int) = 0)) then 1
  else if refKind x.at_ = 1 ∧ (i ≤ x.at_.n ∨ kindAt l (x.at_.n - 1).toNat ≠ 1) then 5 else 0 := by
 have hl : x.left = true ∨ x.left = false := by cases x.left <;> simp
 have ho : x.at_.own = true ∨ x.at_.own = false := by cases x.at_.own <;> simp
 simp only [rightX, ne_eq, rk3, rk0, rk1]
 generalize (x.byte.toNat : Int) = b
 generalize kindAt l (x.at_.n - 1).toNat = q
 generalize x.at_.n = n
 generalize x.kind = k
 by_cases h1 : refB x.at_ = false
 ·
  simp [h1]
 ·
  have h1' : refB x.at_ = true := by simpa using h1
  rcases hl with hl | hl <;> rcases ho with ho | ho <;> by_cases h2 : k = 1 <;> by_cases h3 : k = 2 <;> by_cases h4 : b = 0 <;> by_cases h5 : rootB x.at_ = true <;> simp_all
def lettersL : List UInt8 := [65, 66, 67, 68, 69, 70, 71, 72, 73, 74, 75, 76, 77, 78, 79, 80, 81, 82, 83, 84, 85, 86, 87, 88, 89, 90, 97, 98, 99, 100, 101, 102, 103, 104, 105, 106, 107, 108, 109, 110, 111, 112, 113, 114, 115, 116, 117, 118, 119, 120, 121, 122, 48, 49, 50, 51, 52, 53, 54, 55, 56, 57, 45, 95, 46, 35, 64, 126]
def letterI (c : Int) : Bool := decide ((65 ≤ c ∧ c ≤ 90) ∨ (97 ≤ c ∧ c ≤ 122) ∨ (48 ≤ c ∧ c ≤ 57) ∨ c = 45 ∨ c = 95 ∨ c = 46 ∨ c = 35 ∨ c = 64 ∨ c = 126)
def letter (c : UInt8) : Bool := letterI (c.toNat : Int)
theorem letter_all : ∀ n, n < 256 → decide (Lib.indexByte lettersL (UInt8.ofNat n) < 0) = !letterI (n : Int) := by decide +kernel
theorem letter_index (c : UInt8) : Lib.indexByte lettersL c < 0 ↔ letter c = false := by
 have h := letter_all c.toNat c.toNat_lt
 rw [UInt8.ofNat_toNat] at h
 unfold letter
 rw [Bool.eq_iff_iff] at h
 simp at h
 rw [h]
def nameB (l : List UInt8) : Bool := l.all letter && (decide (1 ≤ l.length) && decide (l.length ≤ 24))
theorem all_take_succ {l : List UInt8} {i : Nat} {x : UInt8} {p : UInt8 → Bool} (h : (l.take i).all p = true) (hx : l[i]? = some x) (hp : p x = true) : (l.take (i + 1)).all p = true := by
 rw [take_succ hx, List.all_append, h]; simp [hp]
theorem nameB_no {l : List UInt8} {i : Nat} {x : UInt8} (hx : l[i]? = some x) (hp : letter x = false) : nameB l = false := by
 have : l.all letter = false := by
  rw [Bool.eq_false_iff]
  intro h
  rw [List.all_eq_true] at h
  have := h x (List.mem_of_getElem? hx)
  rw [hp] at this; cases this
 simp [nameB, this]
theorem nameB_end {l : List UInt8} {i : Nat} (h : (l.take i).all letter = true) (hi : l.length ≤ i) : nameB l = (decide (1 ≤ l.length) && decide (l.length ≤ 24)) := by
 rw [List.take_of_length_le hi] at h
 simp [nameB, h]
theorem get_toList {s : ByteArray} {i : Nat} (h : i < s.size) : s.toList[i]? = some s[i] := by
 rw [ByteArray.toList_eq]
 show s.data.toList[i]? = some s.data[i]
 simp
def risingB : List Dig → Bool
 | [] => true
 | [_] => true
 | x :: y :: r => lessB x y && risingB (y :: r)
theorem rising_iff : ∀ l : List Dig, risingB l = true ↔ ∀ i x y, l[i]? = some x → l[i + 1]? = some y → lessB x y = true
 | [] => by simp [risingB]
 | [a] => by simp [risingB]
 | a :: b :: r => by
  rw [risingB, Bool.and_eq_true, rising_iff (b :: r)]
  constructor
  ·
   rintro ⟨h1, h2⟩ i x y hx hy
   cases i with
   | zero => simp at hx hy; subst hx; subst hy; exact h1
   | succ i => exact h2 i x y (by simpa using hx) (by simpa using hy)
  ·
   intro h
   exact ⟨h 0 a b rfl rfl, fun i x y hx hy => h (i + 1) x y (by simpa using hx) (by simpa using hy)⟩
def opsErrFrom (l : List OpD) : Nat → Nat → Int
 | _, 0 => 0
 | i, n + 1 => if rightI l (i + 1) ≠ 0 then rightI l (i + 1) else opsErrFrom l (i + 1) n
def opsErr (l : List OpD) : Int := opsErrFrom l 0 l.length
theorem opsErrFrom_skip (l : List OpD) : ∀ (k i n : Nat), (∀ j, i ≤ j → j < i + k → rightI l (j + 1) = 0) → k ≤ n → opsErrFrom l i n = opsErrFrom l (i + k) (n - k)
 | 0, i, n, _, _ => rfl
 | k + 1, i, n + 1, h, hk => by
  have h0 := h i (Nat.le_refl _) om_
  rw [opsErrFrom, if_neg (by simp [h0]), opsErrFrom_skip l k (i + 1) n (fun j h1 h2 => h j om_ om_) om_]
  congr 1
  ·
   omega
  ·
   omega
 | k + 1, i, 0, _, hk => by omega
theorem opsErr_at {l : List OpD} {i : Nat} (h : ∀ j : Nat, j < i → rightI l (j + 1) = 0) (hi : i < l.length) (hne : rightI l (i + 1) ≠ 0) : opsErr l = rightI l (i + 1) := by
 rw [opsErr, opsErrFrom_skip l i 0 l.length (fun j _ hj => h j om_) om_, Nat.zero_add]
 obtain ⟨m, hm⟩ : ∃ m, l.length - i = m + 1 := ⟨l.length - i - 1, by omega⟩
 rw [hm, opsErrFrom, if_pos hne]
theorem opsErr_end {l : List OpD} (h : ∀ j : Nat, j < l.length → rightI l (j + 1) = 0) : opsErr l = 0 := by
 rw [opsErr, opsErrFrom_skip l l.length 0 l.length (fun j _ hj => h j om_) om_, Nat.sub_self]
 rfl
def mayI (c : ComD) : Int :=
 if 8 < c.parents.length then 4 else if risingB c.parents = false then 7 else if nameB c.author.toList = false then 11
 else if 200 < c.note.size then 3 else if 2000 < c.ops.length then 4 else opsErr c.ops
end Go.Pl
