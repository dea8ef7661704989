/- What this program's types are: closed facts; equality at the api's types. No condition. -/
import Derived.Test.YtkbmlnkoejlgmaaDoorDt
import Derived.Test.YtkbmlnkoejlgmaaDoorProg
set_option linter.unusedSimpArgs false
set_option linter.unusedVariables false
namespace Go.Proofs.YtkbmlnkoejlgmaaDoor
open Go.RowKit Go.Fw

theorem sz_dig : (Tryd.prog.info? 28).map (·.size) = some 32 := by kernel_rfl
theorem sz_u8 : ∀ w, (sizeOf 5).run Tryd.prog w = .ok 1 w := fun w => fw_sizeOf (by kernel_rfl)
theorem sz_int : (Tryd.prog.info? 3).map (·.size) = some 1 := by kernel_rfl
theorem sz_bool : (Tryd.prog.info? 4).map (·.size) = some 1 := by kernel_rfl
theorem sz_uint8 : (Tryd.prog.info? 5).map (·.size) = some 1 := by kernel_rfl
abbrev sz0_uint8 := @sz_uint8
abbrev sz0_int := @sz_int
abbrev sz0_apiDigest := @sz_dig
theorem sz_string : (Tryd.prog.info? 9).map (·.size) = some 1 := by kernel_rfl
theorem sz_sDig : (Tryd.prog.info? 46).map (·.size) = some 1 := by kernel_rfl
theorem mixed : Tryd.prog.follows .mixedOrders = true := by kernel_rfl
theorem guard_dig : Tryd.prog.eqGuardType Tryd.prog.depth 28 = false := by kernel_rfl

theorem eqIn_dig (d : Nat) (a b : Dig) (w : World) : (Op.equalIn (d + 2) 28 (digV a) (digV b)).run Tryd.prog w = .ok (decide (a = b)) w := by
  have h := run_equalIn_bytes (P := Tryd.prog) w d 28 5 32 Tryd.underlying28 Tryd.underlying5 sz_u8 a.1 b.1 a.2 b.2
  have e : (a.1 == b.1) = decide (a = b) := by
    rw [Bool.eq_iff_iff]; simp [Subtype.ext_iff]
  rw [e] at h
  exact h
theorem part_dig {cs : Array Value} {off : Nat} {w : World} : (part 28 cs off).run Tryd.prog w = .ok (.agg (cs.extract off (off + 32))) w := by
  simp [part, fw_isAgg_yes Tryd.underlying28 rfl, fw_sizeOf sz_dig]
theorem part_one {P : Program} {t : TypeId} {d : TypeDesc} {cs : Array Value} {off : Nat} {v : Value} {w : World} (hT : P.underlying t = some d) (hd : notAgg d = true) (hv : cs[off]? = some v) : (part t cs off).run P w = .ok v w := by
  simp [part, fw_isAgg_no hT hd, hv]
theorem ref_own (r : RefD) : (refC r).toArray[0]? = some (.bool r.own) := by simp [refC]
theorem ref_c (r : RefD) : (refC r).toArray.extract 1 (1 + 32) = (digC r.c).toArray := by
  have := digC_length r.c
  simp [refC, List.drop, List.take_append, this]
theorem ref_n (r : RefD) : (refC r).toArray[33]? = some (.int .i64 r.n) := by simpa using refC_get33 r
theorem op_kind (x : OpD) : (opC x).toArray[0]? = some (.int .i64 x.kind) := by simp [opC]
theorem op_left (x : OpD) : (opC x).toArray[1]? = some (.bool x.left) := by simp [opC]
theorem op_at (x : OpD) : (opC x).toArray.extract 2 (2 + 34) = (refC x.at_).toArray := by
  have := refC_length x.at_
  simp [opC, List.drop, List.take_append, this]
theorem op_byte (x : OpD) : (opC x).toArray[36]? = some (.int .u8 (x.byte.toNat : Int)) := by have := opC_get36 x; simpa [bc] using this

theorem build_apiDigest (w : World) : (Instr.build 28 #[]).run Tryd.prog w = .ok (digV Dig.zero) w := by kernel_rfl
theorem sz_apiDigest (d : Dig) : (Tryd.prog.info? 28).map (·.size) = some (digC d).length := by rw [digC_length]; exact sz_dig
theorem info_apiDigest : ∃ i : TypeInfo, Tryd.prog.info? 28 = some i ∧ i.zero = some (.agg (digC Dig.zero).toArray) ∧ i.size = 32 := by
  have h : (Tryd.prog.info? 28).map (fun i => (i.zero, i.size)) = some (some (.agg (digC Dig.zero).toArray), 32) := by kernel_rfl
  cases hi : Tryd.prog.info? 28 with
  | none => simp [hi] at h
  | some i => simp [hi] at h; exact ⟨i, rfl, h.1, h.2⟩
theorem as_apiDigest {n : NN} {Φ : Exit → Fr → World → Prop} {fr : Fr} {w : World} {ops : Array Oper} {rest : List Oper} {d : Nat} {x : Operand} {ty ty' : TypeId} {pos pos' : String} {aft aft' : Array Edge} {v : Dig}
    (hx : ev fr x = some (.agg (digC v).toArray)) (hxd : x ≠ .tmp d) (hd : d < n.1)
    (h : ∀ g w', Ext w w' → w.heap.size ≤ g → Blk w' g 28 (digC v) → WL Tryd.prog ops n Φ rest ((d, .pointer (some ⟨g, 0, none⟩)) :: fr) w') :
    WL Tryd.prog ops n Φ (⟨some d, .alloc 28, ty, pos, aft, none⟩ :: ⟨none, .store 28 (.tmp d) x, ty', pos', aft', none⟩ :: rest) fr w := by
  obtain ⟨i, hi, hz, hs⟩ := info_apiDigest
  exact WL.allocStore (zs := digC Dig.zero) hi hz rfl (by rw [hs, digC_length]) (by rw [digC_length, digC_length]) hx hxd rfl one_digC hd h
section Y
variable {n : NN} {fr : Fr} {w : World} {ty : TypeId} {x y : Operand} {t' : TypeId}
theorem Y.eql_apiDigest {a b : Dig} (hx : ev fr x = some (digV a)) (hy : ev fr y = some (digV b)) : Yw Tryd.prog n fr (.binOp .eql 28 x y t') ty w (.bool (decide (a = b))) w :=
  Y.bin hx hy (run_eqGuard_agg w _ _ _ _ _ _ guard_dig) (by rw [run_eql_struct, eqIn_dig 9998]; rfl)
theorem Y.neq_apiDigest {a b : Dig} (hx : ev fr x = some (digV a)) (hy : ev fr y = some (digV b)) : Yw Tryd.prog n fr (.binOp .neq 28 x y t') ty w (.bool (!decide (a = b))) w :=
  Y.bin hx hy (run_eqGuard_agg w _ _ _ _ _ _ guard_dig) (by rw [run_neq_struct, eqIn_dig 9998]; rfl)
end Y
end Go.Proofs.YtkbmlnkoejlgmaaDoor
