/- What this program's types are: closed facts; equality at the api's types. No condition. -/
import Derived.Test.YtmndofgagngcgaaG1
import Derived.Test.YtmndofgagngcgaaProg
set_option linter.unusedSimpArgs false
set_option linter.unusedVariables false
namespace Go.Proofs.Ytmndofgagngcgaa
open Go.RowKit Go.Fw

theorem sz_dig : (Try.prog.info? 50).map (·.size) = some 32 := by kernel_rfl
theorem sz_ref : (Try.prog.info? 61).map (·.size) = some 34 := by kernel_rfl
theorem sz_op : (Try.prog.info? 93).map (·.size) = some 37 := by kernel_rfl
theorem sz_u8 : ∀ w, (sizeOf 5).run Try.prog w = .ok 1 w := fun w => fw_sizeOf (by kernel_rfl)
theorem sz_int : (Try.prog.info? 3).map (·.size) = some 1 := by kernel_rfl
theorem sz_bool : (Try.prog.info? 4).map (·.size) = some 1 := by kernel_rfl
theorem sz_uint8 : (Try.prog.info? 5).map (·.size) = some 1 := by kernel_rfl
abbrev sz0_uint8 := @sz_uint8
abbrev sz0_int := @sz_int
abbrev sz0_apiDigest := @sz_dig
abbrev sz0_apiRef := @sz_ref
abbrev sz0_apiOp := @sz_op
theorem fo_apiRef0 : FieldOff Try.prog 61 0 0 := ⟨_, _, 1, Try.underlying61, rfl, sz_bool, by decide, rfl⟩
theorem fo_apiRef1 : FieldOff Try.prog 61 1 1 := ⟨_, _, 32, Try.underlying61, rfl, sz_dig, by decide, rfl⟩
theorem fo_apiRef2 : FieldOff Try.prog 61 2 33 := ⟨_, _, 1, Try.underlying61, rfl, sz_int, by decide, rfl⟩
theorem fo_apiOp0 : FieldOff Try.prog 93 0 0 := ⟨_, _, 1, Try.underlying93, rfl, sz_int, by decide, rfl⟩
theorem fo_apiOp1 : FieldOff Try.prog 93 1 1 := ⟨_, _, 1, Try.underlying93, rfl, sz_bool, by decide, rfl⟩
theorem fo_apiOp2 : FieldOff Try.prog 93 2 2 := ⟨_, _, 34, Try.underlying93, rfl, sz_ref, by decide, rfl⟩
theorem fo_apiOp3 : FieldOff Try.prog 93 3 36 := ⟨_, _, 1, Try.underlying93, rfl, sz_uint8, by decide, rfl⟩
theorem sz_string : (Try.prog.info? 9).map (·.size) = some 1 := by kernel_rfl
theorem sz_sDig : (Try.prog.info? 88).map (·.size) = some 1 := by kernel_rfl
theorem sz_sOp : (Try.prog.info? 27).map (·.size) = some 1 := by kernel_rfl
theorem mixed : Try.prog.follows .mixedOrders = true := by kernel_rfl
theorem guard_dig : Try.prog.eqGuardType Try.prog.depth 50 = false := by kernel_rfl
theorem guard_ref : Try.prog.eqGuardType Try.prog.depth 61 = false := by kernel_rfl
theorem guard_op : Try.prog.eqGuardType Try.prog.depth 93 = false := by kernel_rfl
theorem held_ref : Try.prog.stoodInHeld 61 = false := by kernel_rfl
theorem held_op : Try.prog.stoodInHeld 93 = false := by kernel_rfl

theorem eqIn_dig (d : Nat) (a b : Dig) (w : World) : (Op.equalIn (d + 2) 50 (digV a) (digV b)).run Try.prog w = .ok (decide (a = b)) w := by
  have h := run_equalIn_bytes (P := Try.prog) w d 50 5 32 Try.underlying50 Try.underlying5 sz_u8 a.1 b.1 a.2 b.2
  have e : (a.1 == b.1) = decide (a = b) := by
    rw [Bool.eq_iff_iff]; simp [Subtype.ext_iff]
  rw [e] at h
  exact h
theorem part_dig {cs : Array Value} {off : Nat} {w : World} : (part 50 cs off).run Try.prog w = .ok (.agg (cs.extract off (off + 32))) w := by
  simp [part, fw_isAgg_yes Try.underlying50 rfl, fw_sizeOf sz_dig]
theorem part_ref {cs : Array Value} {off : Nat} {w : World} : (part 61 cs off).run Try.prog w = .ok (.agg (cs.extract off (off + 34))) w := by
  simp [part, fw_isAgg_yes Try.underlying61 rfl, fw_sizeOf sz_ref]
theorem part_one {P : Program} {t : TypeId} {d : TypeDesc} {cs : Array Value} {off : Nat} {v : Value} {w : World} (hT : P.underlying t = some d) (hd : notAgg d = true) (hv : cs[off]? = some v) : (part t cs off).run P w = .ok v w := by
  simp [part, fw_isAgg_no hT hd, hv]
theorem ref_own (r : RefD) : (refC r).toArray[0]? = some (.bool r.own) := by simp [refC]
theorem ref_c (r : RefD) : (refC r).toArray.extract 1 (1 + 32) = (digC r.c).toArray := by
  have := digC_length r.c
  simp [refC, List.drop, List.take_append, this]
theorem ref_n (r : RefD) : (refC r).toArray[33]? = some (.int .i64 r.n) := by simpa using refC_get33 r
theorem op_kind (x : OpD) : (opC x).toArray[0]? = some (.int .i64 x.kind) := by simp [opC]
theorem op_left (x : OpD) : (opC x).toArray[1]? = some (.bool x.left) := by simp [opC]
theorem op_at (x : OpD) : (opC x).toArray.extract 2 (2 + 34) = (refC x.at_).toArray := by
  have := refC_length x.at_
  simp [opC, List.drop, List.take_append, this]
theorem op_byte (x : OpD) : (opC x).toArray[36]? = some (.int .u8 (x.byte.toNat : Int)) := by have := opC_get36 x; simpa [bc] using this
theorem fields_ref : ∃ f0 f1 f2 : Field, (Try.prog.fieldsOf 61).toList = [f0, f1, f2] ∧ f0.name ≠ "_" ∧ f1.name ≠ "_" ∧ f2.name ≠ "_" ∧ f0.type = 4 ∧ f1.type = 50 ∧ f2.type = 3 ∧ f0.offset = 0 ∧ f1.offset = 1 ∧ f2.offset = 33 := by
  refine ⟨_, _, _, (by simp only [Program.fieldsOf, Try.underlying61]; rfl), ?_, ?_, ?_, rfl, rfl, rfl, rfl, rfl, rfl⟩ <;> decide
theorem ht_ref : Try.prog.underlying 61 = some (.struct (Try.prog.fieldsOf 61)) := by simp only [Program.fieldsOf, Try.underlying61]
theorem eqIn_ref (d : Nat) (a b : RefD) (w : World) : (Op.equalIn (d + 3) 61 (refV a) (refV b)).run Try.prog w = .ok (decide (a = b)) w := by
  rw [run_equalIn_struct (P := Try.prog) w (d + 2) _ _ _ ht_ref held_ref]
  obtain ⟨f0, f1, f2, hf, n0, n1, n2, t0, t1, t2, o0, o1, o2⟩ := fields_ref
  rw [hf]
  simp only [Op.eqFields, Sem.run_ite, Sem.run_pure, n0, n1, n2, t0, t1, t2, o0, o1, o2, ne_eq, not_false_eq_true, if_true, Sem.run_bind, part_one Try.underlying4 rfl (ref_own _), part_one Try.underlying3 rfl (ref_n _), part_dig, ref_c, Result.andThen_ok, eqIn_dig,
    run_equalIn_bool' w _ _ _ _ Try.underlying4, run_equalIn_int w _ _ _ _ _ _ Try.underlying3]
  obtain ⟨ao, ac, an⟩ := a
  obtain ⟨bo, bc', bn⟩ := b
  by_cases h0 : ao = bo <;> by_cases h1 : ac = bc' <;> by_cases h2 : an = bn <;> simp [h0, h1, h2]
theorem fields_op : ∃ f0 f1 f2 f3 : Field, (Try.prog.fieldsOf 93).toList = [f0, f1, f2, f3] ∧ f0.name ≠ "_" ∧ f1.name ≠ "_" ∧ f2.name ≠ "_" ∧ f3.name ≠ "_" ∧ f0.type = 3 ∧ f1.type = 4 ∧ f2.type = 61 ∧ f3.type = 5 ∧
    f0.offset = 0 ∧ f1.offset = 1 ∧ f2.offset = 2 ∧ f3.offset = 36 := by
  refine ⟨_, _, _, _, (by simp only [Program.fieldsOf, Try.underlying93]; rfl), ?_, ?_, ?_, ?_, rfl, rfl, rfl, rfl, rfl, rfl, rfl, rfl⟩ <;> decide
theorem ht_op : Try.prog.underlying 93 = some (.struct (Try.prog.fieldsOf 93)) := by simp only [Program.fieldsOf, Try.underlying93]
theorem eqIn_op (d : Nat) (a b : OpD) (w : World) : (Op.equalIn (d + 4) 93 (opV a) (opV b)).run Try.prog w = .ok (decide (a = b)) w := by
  rw [run_equalIn_struct (P := Try.prog) w (d + 3) _ _ _ ht_op held_op]
  obtain ⟨f0, f1, f2, f3, hf, n0, n1, n2, n3, t0, t1, t2, t3, o0, o1, o2, o3⟩ := fields_op
  rw [hf]
  simp only [Op.eqFields, Sem.run_ite, Sem.run_pure, n0, n1, n2, n3, t0, t1, t2, t3, o0, o1, o2, o3, ne_eq, not_false_eq_true, if_true, Sem.run_bind, part_one Try.underlying4 rfl (op_left _), part_one Try.underlying3 rfl (op_kind _), part_one Try.underlying5 rfl (op_byte _), part_ref, op_at, Result.andThen_ok, eqIn_ref,
    run_equalIn_bool' w _ _ _ _ Try.underlying4, run_equalIn_int w _ _ _ _ _ _ Try.underlying3, run_equalIn_int w _ _ _ _ _ _ Try.underlying5]
  obtain ⟨ak, al, aa, ab⟩ := a
  obtain ⟨bk, bl, ba, bb⟩ := b
  have hb : ((ab.toNat : Int) == (bb.toNat : Int)) = decide (ab = bb) := by
    rw [Bool.eq_iff_iff]; simp [← UInt8.toNat_inj]; omega
  simp only [hb]
  by_cases h0 : ak = bk <;> by_cases h1 : al = bl <;> by_cases h2 : aa = ba <;> by_cases h3 : ab = bb <;> simp [h0, h1, h2, h3]

theorem build_apiDigest (w : World) : (Instr.build 50 #[]).run Try.prog w = .ok (digV Dig.zero) w := by kernel_rfl
theorem build_apiRef (w : World) : (Instr.build 61 #[]).run Try.prog w = .ok (refV RefD.zero) w := by kernel_rfl
theorem sz_apiDigest (d : Dig) : (Try.prog.info? 50).map (·.size) = some (digC d).length := by rw [digC_length]; exact sz_dig
theorem sz_apiRef (r : RefD) : (Try.prog.info? 61).map (·.size) = some (refC r).length := by rw [refC_length]; exact sz_ref
theorem sz_apiOp (x : OpD) : (Try.prog.info? 93).map (·.size) = some (opC x).length := by rw [opC_length]; exact sz_op
theorem info_apiDigest : ∃ i : TypeInfo, Try.prog.info? 50 = some i ∧ i.zero = some (.agg (digC Dig.zero).toArray) ∧ i.size = 32 := by
  have h : (Try.prog.info? 50).map (fun i => (i.zero, i.size)) = some (some (.agg (digC Dig.zero).toArray), 32) := by kernel_rfl
  cases hi : Try.prog.info? 50 with
  | none => simp [hi] at h
  | some i => simp [hi] at h; exact ⟨i, rfl, h.1, h.2⟩
theorem as_apiDigest {n : NN} {Φ : Exit → Fr → World → Prop} {fr : Fr} {w : World} {ops : Array Oper} {rest : List Oper} {d : Nat} {x : Operand} {ty ty' : TypeId} {pos pos' : String} {aft aft' : Array Edge} {v : Dig}
    (hx : ev fr x = some (.agg (digC v).toArray)) (hxd : x ≠ .tmp d) (hd : d < n.1)
    (h : ∀ g w', Ext w w' → w.heap.size ≤ g → Blk w' g 50 (digC v) → WL Try.prog ops n Φ rest ((d, .pointer (some ⟨g, 0, none⟩)) :: fr) w') :
    WL Try.prog ops n Φ (⟨some d, .alloc 50, ty, pos, aft, none⟩ :: ⟨none, .store 50 (.tmp d) x, ty', pos', aft', none⟩ :: rest) fr w := by
  obtain ⟨i, hi, hz, hs⟩ := info_apiDigest
  exact WL.allocStore (zs := digC Dig.zero) hi hz rfl (by rw [hs, digC_length]) (by rw [digC_length, digC_length]) hx hxd rfl one_digC hd h
theorem info_apiRef : ∃ i : TypeInfo, Try.prog.info? 61 = some i ∧ i.zero = some (.agg (refC RefD.zero).toArray) ∧ i.size = 34 := by
  have h : (Try.prog.info? 61).map (fun i => (i.zero, i.size)) = some (some (.agg (refC RefD.zero).toArray), 34) := by kernel_rfl
  cases hi : Try.prog.info? 61 with
  | none => simp [hi] at h
  | some i => simp [hi] at h; exact ⟨i, rfl, h.1, h.2⟩
theorem as_apiRef {n : NN} {Φ : Exit → Fr → World → Prop} {fr : Fr} {w : World} {ops : Array Oper} {rest : List Oper} {d : Nat} {x : Operand} {ty ty' : TypeId} {pos pos' : String} {aft aft' : Array Edge} {v : RefD}
    (hx : ev fr x = some (.agg (refC v).toArray)) (hxd : x ≠ .tmp d) (hd : d < n.1)
    (h : ∀ g w', Ext w w' → w.heap.size ≤ g → Blk w' g 61 (refC v) → WL Try.prog ops n Φ rest ((d, .pointer (some ⟨g, 0, none⟩)) :: fr) w') :
    WL Try.prog ops n Φ (⟨some d, .alloc 61, ty, pos, aft, none⟩ :: ⟨none, .store 61 (.tmp d) x, ty', pos', aft', none⟩ :: rest) fr w := by
  obtain ⟨i, hi, hz, hs⟩ := info_apiRef
  exact WL.allocStore (zs := refC RefD.zero) hi hz rfl (by rw [hs, refC_length]) (by rw [refC_length, refC_length]) hx hxd rfl one_refC hd h
theorem info_apiOp : ∃ i : TypeInfo, Try.prog.info? 93 = some i ∧ i.zero = some (.agg (opC (⟨0, false, RefD.zero, 0⟩ : OpD)).toArray) ∧ i.size = 37 := by
  have h : (Try.prog.info? 93).map (fun i => (i.zero, i.size)) = some (some (.agg (opC (⟨0, false, RefD.zero, 0⟩ : OpD)).toArray), 37) := by kernel_rfl
  cases hi : Try.prog.info? 93 with
  | none => simp [hi] at h
  | some i => simp [hi] at h; exact ⟨i, rfl, h.1, h.2⟩
theorem as_apiOp {n : NN} {Φ : Exit → Fr → World → Prop} {fr : Fr} {w : World} {ops : Array Oper} {rest : List Oper} {d : Nat} {x : Operand} {ty ty' : TypeId} {pos pos' : String} {aft aft' : Array Edge} {v : OpD}
    (hx : ev fr x = some (.agg (opC v).toArray)) (hxd : x ≠ .tmp d) (hd : d < n.1)
    (h : ∀ g w', Ext w w' → w.heap.size ≤ g → Blk w' g 93 (opC v) → WL Try.prog ops n Φ rest ((d, .pointer (some ⟨g, 0, none⟩)) :: fr) w') :
    WL Try.prog ops n Φ (⟨some d, .alloc 93, ty, pos, aft, none⟩ :: ⟨none, .store 93 (.tmp d) x, ty', pos', aft', none⟩ :: rest) fr w := by
  obtain ⟨i, hi, hz, hs⟩ := info_apiOp
  exact WL.allocStore (zs := opC (⟨0, false, RefD.zero, 0⟩ : OpD)) hi hz rfl (by rw [hs, opC_length]) (by rw [opC_length, opC_length]) hx hxd rfl one_opC hd h
section Y
variable {n : NN} {fr : Fr} {w : World} {ty : TypeId} {x y : Operand} {t' : TypeId}
theorem Y.eql_apiDigest {a b : Dig} (hx : ev fr x = some (digV a)) (hy : ev fr y = some (digV b)) : Yw Try.prog n fr (.binOp .eql 50 x y t') ty w (.bool (decide (a = b))) w :=
  Y.bin hx hy (run_eqGuard_agg w _ _ _ _ _ _ guard_dig) (by rw [run_eql_struct, eqIn_dig 9998]; rfl)
theorem Y.neq_apiDigest {a b : Dig} (hx : ev fr x = some (digV a)) (hy : ev fr y = some (digV b)) : Yw Try.prog n fr (.binOp .neq 50 x y t') ty w (.bool (!decide (a = b))) w :=
  Y.bin hx hy (run_eqGuard_agg w _ _ _ _ _ _ guard_dig) (by rw [run_neq_struct, eqIn_dig 9998]; rfl)
theorem Y.eql_apiRef {a b : RefD} (hx : ev fr x = some (refV a)) (hy : ev fr y = some (refV b)) : Yw Try.prog n fr (.binOp .eql 61 x y t') ty w (.bool (decide (a = b))) w :=
  Y.bin hx hy (run_eqGuard_agg w _ _ _ _ _ _ guard_ref) (by rw [run_eql_struct, eqIn_ref 9997]; rfl)
theorem Y.neq_apiRef {a b : RefD} (hx : ev fr x = some (refV a)) (hy : ev fr y = some (refV b)) : Yw Try.prog n fr (.binOp .neq 61 x y t') ty w (.bool (!decide (a = b))) w :=
  Y.bin hx hy (run_eqGuard_agg w _ _ _ _ _ _ guard_ref) (by rw [run_neq_struct, eqIn_ref 9997]; rfl)
theorem Y.neq_apiOp {a b : OpD} (hx : ev fr x = some (opV a)) (hy : ev fr y = some (opV b)) : Yw Try.prog n fr (.binOp .neq 93 x y t') ty w (.bool (!decide (a = b))) w :=
  Y.bin hx hy (run_eqGuard_agg w _ _ _ _ _ _ guard_op) (by rw [run_neq_struct, eqIn_op 9996]; rfl)
end Y
end Go.Proofs.Ytmndofgagngcgaa
