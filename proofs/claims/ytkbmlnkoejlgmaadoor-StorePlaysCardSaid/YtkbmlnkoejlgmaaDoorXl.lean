/- StoreOnce, walked. No condition. -/
import Derived.Test.YtkbmlnkoejlgmaaDoorXk
import Derived.Test.YtkbmlnkoejlgmaaDoorXd
set_option linter.unusedSimpArgs false
set_option linter.unusedVariables false
namespace Go.Fw
theorem Chg.ext {S : Nat → Prop} {w w1 w2 : World} (h : Chg S w w1) (k : Ext w1 w2) : Chg S w w2 := h.thenExt k
theorem Y.geq_string {P : Program} {n : NN} {fr : Fr} {w : World} {ty : TypeId} {x y : Operand} {p q : ByteArray} {t t' : TypeId} (hx : ev fr x = some (.string p)) (hy : ev fr y = some (.string q)) :
    Yw P n fr (.binOp .geq t x y t') ty w (.bool (!(Op.bytesLess p.toList q.toList))) w := Y.bin hx hy (by simp [eqGuard_at_string]) (by simp [binOp, Op.stringOp])
theorem Y.geq_less {P : Program} {n : NN} {fr : Fr} {w : World} {ty : TypeId} {x y : Operand} {p q : ByteArray} {t t' : TypeId} (hx : ev fr x = some (.string p)) (hy : ev fr y = some (.string q)) (h : Op.bytesLess p.toList q.toList = true) :
    Yw P n fr (.binOp .geq t x y t') ty w (.bool false) w := by
  have := Y.geq_string (P := P) (n := n) (w := w) (ty := ty) (t := t) (t' := t') hx hy
  rw [h] at this; exact this
theorem Y.neq_same {P : Program} {n : NN} {fr : Fr} {w : World} {ty : TypeId} {x y : Operand} {p : ByteArray} {t t' : TypeId} (hx : ev fr x = some (.string p)) (hy : ev fr y = some (.string p)) :
    Yw P n fr (.binOp .neq t x y t') ty w (.bool false) w := by
  have := Y.neq_string (P := P) (n := n) (w := w) (ty := ty) (t := t) (t' := t') hx hy
  rw [beq_self_eq_true] at this; exact this
end Go.Fw
namespace Go.Proofs.YtkbmlnkoejlgmaaDoor
open Go.RowKit Go.Fw Go.Pl Go.Sort
abbrev TStr : TypeId := 9
abbrev TSs : TypeId := 38
theorem ai_str : AppInfo Tryd.prog TStr 1 16 := by
  have h : (Tryd.prog.info? TStr).map (fun i => (i.zero, i.size, i.bytes)) = some (some (.string ⟨#[]⟩), 1, 16) := by kernel_rfl
  cases hi : Tryd.prog.info? TStr with
  | none => simp [hi] at h
  | some i => simp [hi] at h; exact ⟨i, .string ⟨#[]⟩, hi, h.1, h.2.1, by simp [Value.cells], h.2.2, by decide, by decide⟩
theorem bs1_str (b : ByteArray) (w : World) : (Instr.buildSlice TSs 1 [(0, .string b)].toArray).run Tryd.prog w = .ok (.slice (some ⟨w.heap.size, 0, none⟩) 1 1) (w.alloc (.cells [.string b].toArray TStr)) := by
  obtain ⟨i, z, hi, hz, hk, _⟩ := ai_str
  exact run_bs1 Tryd.underlying38 hi hz (by omega) (by omega) rfl (by rw [hk]; rfl) w
theorem sz0_string : (Tryd.prog.info? TStr).map (·.size) = some 1 := by kernel_rfl
def strC (p : List UInt8) : List Value := [.string (bs p)]
theorem strC_length (p : List UInt8) : (strC p).length = 1 := rfl
abbrev flatS (xs : List (List UInt8)) : List Value := (xs.map strC).flatten
theorem getB_le {w : World} {g r : Nat} {l : List Ent} (h : StoreAt w g r l) (d : Dig) : (getB l d).length ≤ 131072 := by
  unfold getB
  show (match mfind Ent.k d l 0 with | some p => p.2.b | none => []).length ≤ 131072
  cases hp : mfind Ent.k d l 0 with
  | none => exact Nat.zero_le _
  | some p =>
    obtain ⟨_, hj, _⟩ := mfind_some hp
    exact h.short _ (List.mem_of_getElem? hj)
theorem bs_two (a b : List UInt8) : bs (a ++ b) = bs a ++ bs b := ByteArray.ext (by simp [bs])
theorem strL_length (l : List Ent) : (strL l).length = l.length := by rw [strL, List.length_map, namesL_length]
theorem strL_at {l : List Ent} {i : Nat} {d : Dig} (h : (namesL l)[i]? = some d) : (strL l)[i]? = some (d.1 ++ getB l d) := by rw [strL, List.getElem?_map, h]; rfl
/-- What the other store gets, one after the other. -/
def rotL (J : List (List UInt8)) (k n : Nat) : List (List UInt8) := (List.range n).map fun i => (J[J.length - 1 - (i + k) % J.length]?).getD []
theorem rotL_succ {J : List (List UInt8)} {k n : Nat} {b : List UInt8} (h : J[J.length - 1 - (n + k) % J.length]? = some b) : rotL J k (n + 1) = rotL J k n ++ [b] := by
  rw [rotL, List.range_succ, List.map_append, List.map_cons, List.map_nil, h]; rfl
theorem rotL_length (J : List (List UInt8)) (k n : Nat) : (rotL J k n).length = n := by simp [rotL]
theorem rotL_sub {J : List (List UInt8)} {k n : Nat} (h : 0 < J.length) : ∀ x ∈ rotL J k n, x ∈ J := by
  intro x hx
  obtain ⟨i, _, rfl⟩ := List.mem_map.1 hx
  have hj : J.length - 1 - (i + k) % J.length < J.length := by omega
  rw [List.getElem?_eq_getElem hj]
  exact List.getElem_mem hj
theorem rotL_all {J : List (List UInt8)} {k : Nat} (hk : k < J.length) : ∀ x, x ∈ J ↔ x ∈ rotL J k J.length := by
  intro x
  refine ⟨fun hx => ?_, rotL_sub (by omega) x⟩
  obtain ⟨j, hj⟩ := List.mem_iff_getElem?.1 hx
  have hjl := (List.getElem?_eq_some_iff.1 hj).1
  refine List.mem_map.2 ⟨(J.length - 1 - j + J.length - k) % J.length, List.mem_range.2 (Nat.mod_lt _ (by omega)), ?_⟩
  have h1 : ((J.length - 1 - j + J.length - k) % J.length + k) % J.length = J.length - 1 - j := by
    rw [Nat.mod_add_mod, show J.length - 1 - j + J.length - k + k = J.length - 1 - j + J.length by omega, Nat.add_mod_right]
    exact Nat.mod_eq_of_lt (by omega)
  rw [h1, show J.length - 1 - (J.length - 1 - j) = j by omega, hj]; rfl
theorem Holds.again {l l' : List Ent} {J : List (List UInt8)} {b : List UInt8} (h : Holds l J) (hb : b ∈ J) (hP : PutL l b l') : l' = l := by
  unfold PutL at hP
  rw [if_neg] at hP
  · exact hP
  · rintro ⟨h1, h2⟩
    by_cases hl : 131072 < b.length
    · rw [putE, if_pos hl] at h1; omega
    · have := (h.val _ _).2 ⟨hb, by omega, rfl⟩
      rw [valOf, h2] at this; cases this
theorem map_at {bss : List (Value × List UInt8)} {i : Nat} {v : Value} {b : List UInt8} (h : bss[i]? = some (v, b)) : (bss.map Prod.snd)[i]? = some b := by rw [List.getElem?_map, h]; rfl
theorem pairwise_at {l : List (List UInt8)} (h : l.Pairwise fun x y => Op.bytesLess x y = true) {i j : Nat} {x y : List UInt8} (hij : i < j) (hi : l[i]? = some x) (hj : l[j]? = some y) : Op.bytesLess x y = true := by
  obtain ⟨h1, rfl⟩ := List.getElem?_eq_some_iff.1 hi
  obtain ⟨h2, rfl⟩ := List.getElem?_eq_some_iff.1 hj
  exact List.pairwise_iff_getElem.1 h i j h1 h2 hij

set_option maxRecDepth 100000 in
set_option maxHeartbeats 4000000 in
theorem storeOnce_any (u : Value) (bss : List (Value × List UInt8)) (i : Int) (w : World) (hu : Bss w u bss) (hi : InI64 i) (hml : bss.length * 24 ≤ 140737488351232) (hK : Mem w ⟨0, 0, none⟩ (wds keysL)) : Calls Tryd.prog 4 #[u, .int .i64 i] w (Ret (True_ w)) := by
  have hK0 := hK
  have hT := hK
  have hT2 := hK
  have hZ : Ext w w := Chg.refl
  have hk0 : (0 : Nat) < w.heap.size := hK.lt (fun h => by cases h)
  obtain ⟨⟨A, m, c, rfl, hm, hmc, hcm, hux⟩, huq⟩ := hu
  unfold maxLen at hcm
  have hJl : (bss.map Prod.snd).length = m := by rw [List.length_map, hm]
  refine calls_of_CN 161 [4] [(0, .slice A m c), (1, .int .i64 i)] Tryd.func4 rfl rfl rfl (by simp) args2 ?_
  have hE : Ext w w := Chg.refl
  refine CN.seq fun K1 hK1 => ?_
  refine CN.of_CW ?_
  refine CW.region ?_   -- region 0
  refine WL.val (Y.assign rfl) (by first | decide | exact Nat.le_of_ble_eq_true rfl) ?_   -- t4 := assign c(false)
  refine WL.nil ?_
  refine hK1 _ _ _ ?_; try clear hK1 K1
  refine CN.seq fun K2 hK2 => ?_
  refine CN.of_CW ?_
  refine CW.region ?_   -- region 1
  refine WL.call Tryd.func7 rfl rfl rfl (stNew_any _) (by simp) ?_; rintro v17 w1 hR1   -- t17 := call F7() : 
  obtain ⟨g, r, rfl, hg, hr, hT, hx1⟩ := hR1
  have hz1 := hx1.size
  have hE := hE.thenExt hx1
  have hK := hK.ext hx1
  have hT2 := hT2.ext hx1
  have hZ := hZ.ext hx1
  have hgr := hT.lt
  refine WL.call Tryd.func7 rfl rfl rfl (stNew_any _) (by simp) ?_; rintro v18 w2 hR2   -- t18 := call F7() : 
  obtain ⟨g2, r2, rfl, hg2, hr2, hT2, hx2⟩ := hR2
  have hz2 := hx2.size
  have hE := hE.thenExt hx2
  have hK := hK.ext hx2
  have hT := hT.ext hx2
  have hZ := hZ.ext hx2
  have hgr2 := hT2.lt
  refine WL.val (Y.assign rfl) (by first | decide | exact Nat.le_of_ble_eq_true rfl) ?_   -- t5 := assign t17
  refine WL.val (Y.assign rfl) (by first | decide | exact Nat.le_of_ble_eq_true rfl) ?_   -- t6 := assign t18
  refine WL.nil ?_
  refine hK2 _ _ _ ?_; try clear hK2 K2
  refine CN.seq fun K3 hK3 => ?_
  refine CN.seq_testE 28 (False) ?_ ?_
  · refine CW.region ?_
    refine WL.val (Y.move rfl) (by first | decide | exact Nat.le_of_ble_eq_true rfl) ?_   -- t19 := move t5
    refine WL.val (Y.eql_storeStore rfl rfl) (by first | decide | exact Nat.le_of_ble_eq_true rfl) ?_   -- t20 := binOp eql 23 t19 c(['Go.Value.pointer', 'none']) 23
    refine WL.val (Y.move rfl) (by first | decide | exact Nat.le_of_ble_eq_true rfl) ?_   -- t21 := move t20
    first | refine WL.casesD (d := 21) rfl (fun hg21 => ?_) (fun hg21 => ?_) | refine WL.casesND (d := 21) rfl (fun hg21 => ?_) (fun hg21 => ?_) | refine WL.cases (d := 21) rfl (fun hg21 => ?_) (fun hg21 => ?_)
    · -- t21 = T
      refine WL.goff rfl rfl (by first | decide | exact Nat.le_of_ble_eq_true rfl) ?_   -- t22 := move t6 [if 2=false]
      refine WL.goff rfl rfl (by first | decide | exact Nat.le_of_ble_eq_true rfl) ?_   -- t23 := binOp eql 23 t22 c(['Go.Value.pointer', 'none']) 23 [if 2=false]
      refine WL.val (Y.pick rfl rfl) (by first | decide | exact Nat.le_of_ble_eq_true rfl) ?_   -- t24 := pick t21 c(true) t23
      refine WL.val (Y.move rfl) (by first | decide | exact Nat.le_of_ble_eq_true rfl) ?_   -- t25 := move t24
      refine WL.goff rfl rfl (by first | decide | exact Nat.le_of_ble_eq_true rfl) ?_   -- t26 := call F8() :  [if 6=false]
      refine WL.goff rfl rfl (by first | decide | exact Nat.le_of_ble_eq_true rfl) ?_   -- t27 := unOp not 4 t26 [if 6=false]
      refine WL.val (Y.pick rfl rfl) (by first | decide | exact Nat.le_of_ble_eq_true rfl) ?_   -- t28 := pick t25 c(true) t27
      refine WL.nil ⟨⟨_, rfl, ?_⟩, Chg.refl, (by repeat (first | exact Fr.le.refl | refine Fr.le.push rfl ?_))⟩
      first | (simp only [*, Int.natCast_inj, Bool.not_eq_true', decide_eq_false_iff_not, decide_eq_true_eq, not_true_eq_false, not_false_eq_true, true_and, false_and, and_true, and_false, false_or, or_false, true_or, or_true, iff_true, true_iff, iff_false, false_iff]; done) | (simp_all; done) | (refine congrArg Value.bool (Bool.eq_iff_iff.2 ?_); simp_all; done) | (simp_all; omega)
    · -- t21 = F
      refine WL.gval rfl rfl (Y.move rfl) (by first | decide | exact Nat.le_of_ble_eq_true rfl) ?_   -- t22 := move t6 [if 2=false]
      refine WL.gval rfl rfl (Y.eql_storeStore rfl rfl) (by first | decide | exact Nat.le_of_ble_eq_true rfl) ?_   -- t23 := binOp eql 23 t22 c(['Go.Value.pointer', 'none']) 23 [if 2=false]
      refine WL.val (Y.pick rfl rfl) (by first | decide | exact Nat.le_of_ble_eq_true rfl) ?_   -- t24 := pick t21 c(true) t23
      refine WL.val (Y.move rfl) (by first | decide | exact Nat.le_of_ble_eq_true rfl) ?_   -- t25 := move t24
      first | refine WL.casesD (d := 25) rfl (fun hg25 => ?_) (fun hg25 => ?_) | refine WL.casesND (d := 25) rfl (fun hg25 => ?_) (fun hg25 => ?_) | refine WL.cases (d := 25) rfl (fun hg25 => ?_) (fun hg25 => ?_)
      · -- t25 = T
        refine WL.goff rfl rfl (by first | decide | exact Nat.le_of_ble_eq_true rfl) ?_   -- t26 := call F8() :  [if 6=false]
        refine WL.goff rfl rfl (by first | decide | exact Nat.le_of_ble_eq_true rfl) ?_   -- t27 := unOp not 4 t26 [if 6=false]
        refine WL.val (Y.pick rfl rfl) (by first | decide | exact Nat.le_of_ble_eq_true rfl) ?_   -- t28 := pick t25 c(true) t27
        refine WL.nil ⟨⟨_, rfl, ?_⟩, Chg.refl, (by repeat (first | exact Fr.le.refl | refine Fr.le.push rfl ?_))⟩
        first | (simp only [*, Int.natCast_inj, Bool.not_eq_true', decide_eq_false_iff_not, decide_eq_true_eq, not_true_eq_false, not_false_eq_true, true_and, false_and, and_true, and_false, false_or, or_false, true_or, or_true, iff_true, true_iff, iff_false, false_iff]; done) | (simp_all; done) | (refine congrArg Value.bool (Bool.eq_iff_iff.2 ?_); simp_all; done) | (simp_all; omega)
      · -- t25 = F
        refine WL.gcall rfl rfl Tryd.func8 rfl rfl rfl (alive_any _ hK) (by first | decide | exact Nat.le_of_ble_eq_true rfl) ?_; rintro v w3 ⟨rfl, hx3⟩; have hz3 := hx3.size; have hE := hE.thenExt hx3; have hK := hK.ext hx3; have hT := hT.ext hx3; have hT2 := hT2.ext hx3; have hZ := hZ.ext hx3   -- t26 := call F8() :  [if 6=false]
        refine WL.gval rfl rfl (Y.not rfl) (by first | decide | exact Nat.le_of_ble_eq_true rfl) ?_   -- t27 := unOp not 4 t26 [if 6=false]
        refine WL.val (Y.pick rfl rfl) (by first | decide | exact Nat.le_of_ble_eq_true rfl) ?_   -- t28 := pick t25 c(true) t27
        refine WL.nil ⟨⟨_, rfl, ?_⟩, hx3, (by repeat (first | exact Fr.le.refl | refine Fr.le.push rfl ?_))⟩
        first | (simp only [*, Int.natCast_inj, Bool.not_eq_true', decide_eq_false_iff_not, decide_eq_true_eq, not_true_eq_false, not_false_eq_true, true_and, false_and, and_true, and_false, false_or, or_false, true_or, or_true, iff_true, true_iff, iff_false, false_iff]; done) | (simp_all; done) | (refine congrArg Value.bool (Bool.eq_iff_iff.2 ?_); simp_all; done) | (simp_all; omega)
  intro w4 hx4; have hz4 := hx4.size; have hE := hE.thenExt hx4; have hK := hK.ext hx4; have hT := hT.ext hx4; have hT2 := hT2.ext hx4; have hZ := hZ.ext hx4
  first | refine CN.condD rfl (fun ht4 => ?_) (fun ht4 => ?_) | refine CN.condND rfl (fun ht4 => ?_) (fun ht4 => ?_) | refine CN.condN rfl (fun ht4 => ?_) (fun ht4 => ?_) | refine CN.cond rfl (fun ht4 => ?_) (fun ht4 => ?_)
  · -- then
    refine CN.seq fun K5 hK5 => ?_
    refine CN.of_CW ?_
    refine CW.region ?_   -- region 3
    refine WL.val (Y.assign rfl) (by first | decide | exact Nat.le_of_ble_eq_true rfl) ?_   -- t4 := assign c(false)
    refine WL.nil ?_
    refine hK5 _ _ _ ?_; try clear hK5 K5
    refine CN.ret ?_
    exact False.elim (by assumption)
  -- else
  refine CN.skip ?_
  refine hK3 _ _ _ ?_; try clear hK3 K3
  refine CN.seq fun K6 hK6 => ?_
  refine CN.seq_test 36 (500 < m ∨ m = 0) ?_ ?_
  · refine CW.region ?_
    refine WL.val (Y.move rfl) (by first | decide | exact Nat.le_of_ble_eq_true rfl) ?_   -- t29 := move t0
    refine WL.val (Y.len_slice Tryd.underlying22 rfl) (by first | decide | exact Nat.le_of_ble_eq_true rfl) ?_   -- t30 := call len(t29) : 22
    refine WL.val (Y.gtr rfl rfl) (by first | decide | exact Nat.le_of_ble_eq_true rfl) ?_   -- t31 := binOp gtr 3 t30 c(500:i64) 3
    refine WL.val (Y.move rfl) (by first | decide | exact Nat.le_of_ble_eq_true rfl) ?_   -- t32 := move t31
    first | refine WL.casesD (d := 32) rfl (fun hg32 => ?_) (fun hg32 => ?_) | refine WL.casesND (d := 32) rfl (fun hg32 => ?_) (fun hg32 => ?_) | refine WL.cases (d := 32) rfl (fun hg32 => ?_) (fun hg32 => ?_)
    · -- t32 = T
      refine WL.goff rfl rfl (by first | decide | exact Nat.le_of_ble_eq_true rfl) ?_   -- t33 := move t0 [if 3=false]
      refine WL.goff rfl rfl (by first | decide | exact Nat.le_of_ble_eq_true rfl) ?_   -- t34 := call len(t33) : 22 [if 3=false]
      refine WL.goff rfl rfl (by first | decide | exact Nat.le_of_ble_eq_true rfl) ?_   -- t35 := binOp eql 3 t34 c(0:i64) 3 [if 3=false]
      refine WL.val (Y.pick rfl rfl) (by first | decide | exact Nat.le_of_ble_eq_true rfl) ?_   -- t36 := pick t32 c(true) t35
      refine WL.nil ⟨⟨_, rfl, ?_⟩, rfl, (by repeat (first | exact Fr.le.refl | refine Fr.le.push rfl ?_))⟩
      first | (simp only [*, Int.natCast_inj, Bool.not_eq_true', decide_eq_false_iff_not, decide_eq_true_eq, not_true_eq_false, not_false_eq_true, true_and, false_and, and_true, and_false, false_or, or_false, true_or, or_true, iff_true, true_iff, iff_false, false_iff]; done) | (simp_all; done) | (refine congrArg Value.bool (Bool.eq_iff_iff.2 ?_); simp_all; done) | (simp_all; omega)
    · -- t32 = F
      refine WL.gval rfl rfl (Y.move rfl) (by first | decide | exact Nat.le_of_ble_eq_true rfl) ?_   -- t33 := move t0 [if 3=false]
      refine WL.gval rfl rfl (Y.len_slice Tryd.underlying22 rfl) (by first | decide | exact Nat.le_of_ble_eq_true rfl) ?_   -- t34 := call len(t33) : 22 [if 3=false]
      refine WL.gval rfl rfl (Y.eql rfl rfl) (by first | decide | exact Nat.le_of_ble_eq_true rfl) ?_   -- t35 := binOp eql 3 t34 c(0:i64) 3 [if 3=false]
      refine WL.val (Y.pick rfl rfl) (by first | decide | exact Nat.le_of_ble_eq_true rfl) ?_   -- t36 := pick t32 c(true) t35
      refine WL.nil ⟨⟨_, rfl, ?_⟩, rfl, (by repeat (first | exact Fr.le.refl | refine Fr.le.push rfl ?_))⟩
      first | (simp only [*, Int.natCast_inj, Bool.not_eq_true', decide_eq_false_iff_not, decide_eq_true_eq, not_true_eq_false, not_false_eq_true, true_and, false_and, and_true, and_false, false_or, or_false, true_or, or_true, iff_true, true_iff, iff_false, false_iff]; done) | (simp_all; done) | (refine congrArg Value.bool (Bool.eq_iff_iff.2 ?_); simp_all; done) | (simp_all; omega)
  first | refine CN.condD rfl (fun ht7 => ?_) (fun ht7 => ?_) | refine CN.condND rfl (fun ht7 => ?_) (fun ht7 => ?_) | refine CN.condN rfl (fun ht7 => ?_) (fun ht7 => ?_) | refine CN.cond rfl (fun ht7 => ?_) (fun ht7 => ?_)
  · -- then
    refine CN.seq fun K8 hK8 => ?_
    refine CN.of_CW ?_
    refine CW.region ?_   -- region 5
    refine WL.val (Y.assign rfl) (by first | decide | exact Nat.le_of_ble_eq_true rfl) ?_   -- t4 := assign c(true)
    refine WL.nil ?_
    refine hK8 _ _ _ ?_; try clear hK8 K8
    refine CN.ret ?_
    exact ⟨[], rfl, List.nodup_nil, (fun D hD => by cases hD), _, rfl, fun w_ hc => ⟨rfl, hE.step hc (fun k h => by cases h)⟩⟩
  -- else
  refine CN.skip ?_
  refine hK6 _ _ _ ?_; try clear hK6 K6
  refine CN.seq fun K9 hK9 => ?_
  refine CN.of_CW ?_
  have hm0 : 0 < m := (by omega)
  obtain ⟨ht0, ht1⟩ := tmod_pos (i := i) (m := m) hm0
  obtain ⟨by_, hj, hjm⟩ := tmod_twice (i := i) (m := m) hm0
  refine CW.region ?_   -- region 6
  refine WL.val (Y.move rfl) (by first | decide | exact Nat.le_of_ble_eq_true rfl) ?_   -- t37 := move t1
  refine WL.val (Y.move rfl) (by first | decide | exact Nat.le_of_ble_eq_true rfl) ?_   -- t38 := move t0
  refine WL.val (Y.len_slice Tryd.underlying22 rfl) (by first | decide | exact Nat.le_of_ble_eq_true rfl) ?_   -- t39 := call len(t38) : 22
  refine WL.val (Y.rem rfl rfl (by omega)) (by first | decide | exact Nat.le_of_ble_eq_true rfl) ?_   -- t40 := binOp rem 3 t37 t39 3
  refine WL.val (Y.move rfl) (by first | decide | exact Nat.le_of_ble_eq_true rfl) ?_   -- t41 := move t0
  refine WL.val (Y.len_slice Tryd.underlying22 rfl) (by first | decide | exact Nat.le_of_ble_eq_true rfl) ?_   -- t42 := call len(t41) : 22
  refine WL.val (Y.add rfl rfl ⟨by omega, by omega⟩) (by first | decide | exact Nat.le_of_ble_eq_true rfl) ?_   -- t43 := binOp add 3 t40 t42 3
  refine WL.val (Y.move rfl) (by first | decide | exact Nat.le_of_ble_eq_true rfl) ?_   -- t44 := move t0
  refine WL.val (Y.len_slice Tryd.underlying22 rfl) (by first | decide | exact Nat.le_of_ble_eq_true rfl) ?_   -- t45 := call len(t44) : 22
  refine WL.val (Y.rem rfl rfl (by omega)) (by first | decide | exact Nat.le_of_ble_eq_true rfl) ?_   -- t46
  rw [hj]
  refine WL.val (Y.assign rfl) (by first | decide | exact Nat.le_of_ble_eq_true rfl) ?_   -- t1 := assign t46
  refine WL.nil ?_
  refine hK9 _ _ _ ?_; try clear hK9 K9
  refine CN.seq fun K10 hK10 => ?_
  refine CN.seq fun K11 hK11 => ?_
  refine CN.of_CW ?_
  refine CW.region ?_   -- region 7
  refine WL.val (Y.move rfl) (by first | decide | exact Nat.le_of_ble_eq_true rfl) ?_   -- t47 := move t0
  refine WL.val (Y.len_slice Tryd.underlying22 rfl) (by first | decide | exact Nat.le_of_ble_eq_true rfl) ?_   -- t48 := call len(t47) : 22
  refine WL.val (Y.move rfl) (by first | decide | exact Nat.le_of_ble_eq_true rfl) ?_   -- t49 := move c(0:i64)
  refine WL.nil ?_
  refine hK11 _ _ _ ?_; try clear hK11 K11
  refine CN.block ?_   -- block 0
  refine CN.of_CW ?_
  refine CW.loop (X := List Ent × List Ent × Nat) (fun x => [(0, .slice A m c), (1, .int .i64 (by_ : Int)), (5, .pointer (some ⟨g, 0, none⟩)), (6, .pointer (some ⟨g2, 0, none⟩)), (48, .int .i64 (m : Int)), (49, .int .i64 (x.2.2 : Int))]) (fun x w0 => x.2.2 ≤ m ∧ Ext w w0 ∧ StoreAt w0 g r x.1 ∧ StoreAt w0 g2 r2 x.2.1 ∧ (∀ e ∈ x.1, ∀ k, e.v.ownBlock = some k → w4.heap.size ≤ k) ∧ (∀ e ∈ x.2.1, ∀ k, e.v.ownBlock = some k → w4.heap.size ≤ k) ∧ Holds x.1 ((bss.map Prod.snd).take x.2.2) ∧ (NoColl (bss.map Prod.snd) → Holds x.2.1 (rotL (bss.map Prod.snd) by_ x.2.2)) ∧ w4.heap.size ≤ w0.heap.size) (fun x => m - x.2.2) ([], [], 0) (by repeat (first | exact Fr.le.nil | refine Fr.le.cons rfl ?_)) ⟨Nat.zero_le _, hE, hT, hT2, (fun e he => nomatch he), (fun e he => nomatch he), Holds.nil, (fun _ => Holds.nil), Nat.le_refl _⟩ ?_
  intro x w5 hl5
  clear hE hT hT2 hK hZ
  obtain ⟨ls, lt, x⟩ := x
  dsimp only at hl5 ⊢
  obtain ⟨hx, hE, hT, hT2, hN1, hN2, hH, hH2, hz5⟩ := hl5
  have hK := hK0.ext hE
  have hZ : Ext w5 w5 := Chg.refl
  have hgr3 := hT.lt
  have hgr4 := hT2.lt
  have hzE := hE.size
  have hL1 : ∀ e ∈ ls, ∀ k, e.v.ownBlock = some k → w4.heap.size ≤ k ∧ k < w5.heap.size := fun e he k hk => ⟨hN1 e he k hk, (hT.low e he k hk).2.2⟩
  have hL2 : ∀ e ∈ lt, ∀ k, e.v.ownBlock = some k → w4.heap.size ≤ k ∧ k < w5.heap.size := fun e he k hk => ⟨hN2 e he k hk, (hT2.low e he k hk).2.2⟩
  refine CW.seq fun K12 hK12 => ?_
  refine CW.region ?_   -- region 8
  refine WL.val (Y.lss rfl rfl) (by first | decide | exact Nat.le_of_ble_eq_true rfl) ?_   -- t50 := binOp lss 3 t49 t48 3
  refine WL.nil ?_
  refine hK12 _ _ ?_; try clear hK12 K12
  refine CW.seq fun K13 hK13 => ?_
  first | refine CW.condD rfl (fun ht14 => ?_) (fun ht14 => ?_) | refine CW.condND rfl (fun ht14 => ?_) (fun ht14 => ?_) | refine CW.condN rfl (fun ht14 => ?_) (fun ht14 => ?_) | refine CW.cond rfl (fun ht14 => ?_) (fun ht14 => ?_)
  · -- then
    refine CW.skip ?_
    refine hK13 _ _ ?_; try clear hK13 K13
    refine CW.seq fun K15 hK15 => ?_
    refine CW.block ?_   -- block 1
    refine CW.seq fun K16 hK16 => ?_
    refine CW.region ?_   -- region 9
    refine WL.val (Y.move rfl) (by first | decide | exact Nat.le_of_ble_eq_true rfl) ?_   -- t51 := move t49
    refine WL.val (Y.assign rfl) (by first | decide | exact Nat.le_of_ble_eq_true rfl) ?_   -- t7 := assign t51
    refine WL.nil ?_
    refine hK16 _ _ ?_; try clear hK16 K16
    refine CW.seq fun K17 hK17 => ?_
    obtain ⟨⟨v, b⟩, hvb⟩ : ∃ y, bss[x]? = some y := ⟨_, List.getElem?_eq_getElem (by omega)⟩
    obtain ⟨q, hq⟩ : ∃ q : Nat, q = (x + by_) % m := ⟨_, rfl⟩
    have hqm : q < m := by rw [hq]; exact Nat.mod_lt _ (by omega)
    obtain ⟨j2, hj2⟩ : ∃ j : Nat, j = m - 1 - q := ⟨_, rfl⟩
    obtain ⟨⟨v2, b2⟩, hvb2⟩ : ∃ y, bss[j2]? = some y := ⟨_, List.getElem?_eq_getElem (by omega)⟩
    obtain ⟨a, rfl, hma⟩ := hux _ _ hvb
    obtain ⟨_, he2, hma2⟩ := hux _ _ hvb2
    cases he2
    obtain ⟨hb, hbl⟩ := huq _ _ hvb
    obtain ⟨hb2, hbl2⟩ := huq _ _ hvb2
    dsimp only at hb hbl hb2 hbl2
    have hq2 : ((x : Int) + (by_ : Int)).tmod (m : Int) = (q : Int) := by rw [hq]; exact_mod_cast (Int.ofNat_tmod (x + by_) m).symm
    have hj3 : (m : Int) - 1 - (q : Int) = (j2 : Int) := by omega
    refine CW.region ?_   -- region 10
    refine WL.val (Y.move rfl) (by first | decide | exact Nat.le_of_ble_eq_true rfl) ?_   -- t53 := move t5
    refine WL.val (Y.move rfl) (by first | decide | exact Nat.le_of_ble_eq_true rfl) ?_   -- t54 := move t0
    refine WL.val (Y.move rfl) (by first | decide | exact Nat.le_of_ble_eq_true rfl) ?_   -- t55 := move t7
    refine WL.val (Y.indexAddrN Tryd.underlying22 rfl rfl sz0_suint8 (by omega)) (by first | decide | exact Nat.le_of_ble_eq_true rfl) ?_   -- t56 := indexAddr 22 t54 t55
    refine WL.val (Y.load1 Tryd.underlying26 rfl ((hma.ext hE).cell0) rfl) (by first | decide | exact Nat.le_of_ble_eq_true rfl) ?_   -- t57 := load 26 t56
    refine WL.call Tryd.func9 rfl rfl rfl (stPut_any g r ls _ b _ hT hK ⟨by omega, by omega⟩ (hb.ext hE) (fun h0 k hk => by have := hb.lt h0 k hk; omega)) (by simp) ?_; rintro v58 w6 hR6   -- t58 := call F9(t53, t57) : 23,26
    obtain ⟨rfl, ⟨ls2, ⟨hl1, hfr1⟩, hT⟩, hc6⟩ := hR6
    have hz6 := hc6.size
    have hE := hE.step hc6 (fun k h => by rcases h with h | h <;> omega)
    have hK := hK0.ext hE
    have hT2 := hT2.chg hc6 (fun h => by rcases h with h | h <;> omega) (fun h => by rcases h with h | h <;> omega) (fun e he k hk h => by have := hN2 e he k hk; rcases h with h | h <;> omega)
    have hN1 : ∀ e ∈ ls2, ∀ k, e.v.ownBlock = some k → w4.heap.size ≤ k := by
      intro e he k hk
      rcases hfr1 e he with h | h
      · exact hN1 e h k hk
      · have := h k hk; omega
    clear hZ
    have hZ : Ext w6 w6 := Chg.refl
    refine WL.val (Y.move rfl) (by first | decide | exact Nat.le_of_ble_eq_true rfl) ?_   -- t52 := move t58
    refine WL.val (Y.extract rfl rfl) (by first | decide | exact Nat.le_of_ble_eq_true rfl) ?_   -- t59 := extract t52 0
    refine WL.val (Y.extract rfl rfl) (by first | decide | exact Nat.le_of_ble_eq_true rfl) ?_   -- t60 := extract t52 1
    refine as_apiDigest rfl (by simp) (by first | decide | exact Nat.le_of_ble_eq_true rfl) fun g8 w7 hx7 hg8 hB8 => ?_   -- alloc 28; store 28 t8 t59
    have hlt8 := hB8.lt; have hz7 := hx7.size
    have hM8 := hB8.mem; have hz7 := hx7.size; have hE := hE.thenExt hx7; have hK := hK.ext hx7; have hT := hT.ext hx7; have hT2 := hT2.ext hx7; have hZ := hZ.ext hx7
    refine WL.val (Y.assign rfl) (by first | decide | exact Nat.le_of_ble_eq_true rfl) ?_   -- t9 := assign t60
    refine WL.nil ?_
    refine hK17 _ _ ?_; try clear hK17 K17
    refine CW.seq fun K18 hK18 => ?_
    refine CW.seq fun K19 hK19 => ?_
    refine CW.region ?_   -- region 11
    refine WL.val (Y.move rfl) (by first | decide | exact Nat.le_of_ble_eq_true rfl) ?_   -- t61 := move t9
    refine WL.val (Y.eql rfl rfl) (by first | decide | exact Nat.le_of_ble_eq_true rfl) ?_   -- t62 := binOp eql 29 t61 c(10:i64) 29
    refine WL.nil ?_
    refine hK19 _ _ ?_; try clear hK19 K19
    first | refine CW.condD rfl (fun ht20 => ?_) (fun ht20 => ?_) | refine CW.condND rfl (fun ht20 => ?_) (fun ht20 => ?_) | refine CW.condN rfl (fun ht20 => ?_) (fun ht20 => ?_) | refine CW.cond rfl (fun ht20 => ?_) (fun ht20 => ?_)
    · -- then
      refine CW.seq fun K21 hK21 => ?_
      refine CW.region ?_   -- region 12
      refine WL.val (Y.assign rfl) (by first | decide | exact Nat.le_of_ble_eq_true rfl) ?_   -- t4 := assign c(true)
      refine WL.nil ?_
      refine hK21 _ _ ?_; try clear hK21 K21
      refine CW.ret ?_
      exact ⟨[], rfl, List.nodup_nil, (fun D hD => by cases hD), _, rfl, fun w_ hc => ⟨rfl, hE.step hc (fun k h => by cases h)⟩⟩
    -- else
    refine CW.skip ?_
    refine hK18 _ _ ?_; try clear hK18 K18
    refine CW.seq fun K22 hK22 => ?_
    refine CW.region ?_   -- region 13
    refine WL.val (Y.move rfl) (by first | decide | exact Nat.le_of_ble_eq_true rfl) ?_   -- t63 := move t6
    refine WL.val (Y.move rfl) (by first | decide | exact Nat.le_of_ble_eq_true rfl) ?_   -- t64 := move t0
    refine WL.val (Y.move rfl) (by first | decide | exact Nat.le_of_ble_eq_true rfl) ?_   -- t65 := move t0
    refine WL.val (Y.len_slice Tryd.underlying22 rfl) (by first | decide | exact Nat.le_of_ble_eq_true rfl) ?_   -- t66 := call len(t65) : 22
    refine WL.val (Y.sub rfl rfl ⟨by omega, by omega⟩) (by first | decide | exact Nat.le_of_ble_eq_true rfl) ?_   -- t67 := binOp sub 3 t66 c(1:i64) 3
    refine WL.val (Y.move rfl) (by first | decide | exact Nat.le_of_ble_eq_true rfl) ?_   -- t68 := move t7
    refine WL.val (Y.move rfl) (by first | decide | exact Nat.le_of_ble_eq_true rfl) ?_   -- t69 := move t1
    refine WL.val (Y.add rfl rfl ⟨by omega, by omega⟩) (by first | decide | exact Nat.le_of_ble_eq_true rfl) ?_   -- t70 := binOp add 3 t68 t69 3
    refine WL.val (Y.move rfl) (by first | decide | exact Nat.le_of_ble_eq_true rfl) ?_   -- t71 := move t0
    refine WL.val (Y.len_slice Tryd.underlying22 rfl) (by first | decide | exact Nat.le_of_ble_eq_true rfl) ?_   -- t72 := call len(t71) : 22
    refine WL.val (Y.rem rfl rfl (by omega)) (by first | decide | exact Nat.le_of_ble_eq_true rfl) ?_   -- t73
    rw [hq2]
    refine WL.val (Y.sub rfl rfl ⟨by omega, by omega⟩) (by first | decide | exact Nat.le_of_ble_eq_true rfl) ?_   -- t74
    rw [hj3]
    refine WL.val (Y.indexAddrN Tryd.underlying22 rfl rfl sz0_suint8 (by omega)) (by first | decide | exact Nat.le_of_ble_eq_true rfl) ?_   -- t75 := indexAddr 22 t64 t74
    refine WL.val (Y.load1 Tryd.underlying26 rfl ((hma2.ext hE).cell0) rfl) (by first | decide | exact Nat.le_of_ble_eq_true rfl) ?_   -- t76 := load 26 t75
    refine WL.call Tryd.func9 rfl rfl rfl (stPut_any g2 r2 lt _ b2 _ hT2 hK ⟨by omega, by omega⟩ (hb2.ext hE) (fun h0 k hk => by have := hb2.lt h0 k hk; omega)) (by simp) ?_; rintro v77 w8 hR8   -- t77 := call F9(t63, t76) : 23,26
    obtain ⟨rfl, ⟨lt2, ⟨hl2, hfr2⟩, hT2⟩, hc8⟩ := hR8
    have hz8 := hc8.size
    have hE := hE.step hc8 (fun k h => by rcases h with h | h <;> omega)
    have hK := hK0.ext hE
    have hT := hT.chg hc8 (fun h => by rcases h with h | h <;> omega) (fun h => by rcases h with h | h <;> omega) (fun e he k hk h => by have := hN1 e he k hk; rcases h with h | h <;> omega)
    have hN2 : ∀ e ∈ lt2, ∀ k, e.v.ownBlock = some k → w4.heap.size ≤ k := by
      intro e he k hk
      rcases hfr2 e he with h | h
      · exact hN2 e h k hk
      · have := h k hk; omega
    have hu2 := hT2.keys
    refine WL.nil ?_
    refine hK22 _ _ ?_; try clear hK22 K22
    refine CW.region ?_   -- region 14
    refine WL.val (Y.move rfl) (by first | decide | exact Nat.le_of_ble_eq_true rfl) ?_   -- t78 := move t6
    refine WL.val (Y.move rfl) (by first | decide | exact Nat.le_of_ble_eq_true rfl) ?_   -- t79 := move t0
    refine WL.val (Y.move rfl) (by first | decide | exact Nat.le_of_ble_eq_true rfl) ?_   -- t80 := move t0
    refine WL.val (Y.len_slice Tryd.underlying22 rfl) (by first | decide | exact Nat.le_of_ble_eq_true rfl) ?_   -- t81 := call len(t80) : 22
    refine WL.val (Y.sub rfl rfl ⟨by omega, by omega⟩) (by first | decide | exact Nat.le_of_ble_eq_true rfl) ?_   -- t82 := binOp sub 3 t81 c(1:i64) 3
    refine WL.val (Y.move rfl) (by first | decide | exact Nat.le_of_ble_eq_true rfl) ?_   -- t83 := move t7
    refine WL.val (Y.move rfl) (by first | decide | exact Nat.le_of_ble_eq_true rfl) ?_   -- t84 := move t1
    refine WL.val (Y.add rfl rfl ⟨by omega, by omega⟩) (by first | decide | exact Nat.le_of_ble_eq_true rfl) ?_   -- t85 := binOp add 3 t83 t84 3
    refine WL.val (Y.move rfl) (by first | decide | exact Nat.le_of_ble_eq_true rfl) ?_   -- t86 := move t0
    refine WL.val (Y.len_slice Tryd.underlying22 rfl) (by first | decide | exact Nat.le_of_ble_eq_true rfl) ?_   -- t87 := call len(t86) : 22
    refine WL.val (Y.rem rfl rfl (by omega)) (by first | decide | exact Nat.le_of_ble_eq_true rfl) ?_   -- t88
    rw [hq2]
    refine WL.val (Y.sub rfl rfl ⟨by omega, by omega⟩) (by first | decide | exact Nat.le_of_ble_eq_true rfl) ?_   -- t89
    rw [hj3]
    refine WL.val (Y.indexAddrN Tryd.underlying22 rfl rfl sz0_suint8 (by omega)) (by first | decide | exact Nat.le_of_ble_eq_true rfl) ?_   -- t90 := indexAddr 22 t79 t89
    refine WL.val (Y.load1 Tryd.underlying26 rfl ((hma2.ext hE).cell0) rfl) (by first | decide | exact Nat.le_of_ble_eq_true rfl) ?_   -- t91 := load 26 t90
    refine WL.call Tryd.func9 rfl rfl rfl (stPut_any g2 r2 lt2 _ b2 _ hT2 hK ⟨by omega, by omega⟩ (hb2.ext hE) (fun h0 k hk => by have := hb2.lt h0 k hk; omega)) (by simp) ?_; rintro v92 w9 hR9   -- t92 := call F9(t78, t91) : 23,26
    obtain ⟨rfl, ⟨lt3, ⟨hl3, hfr3⟩, hT2⟩, hc9⟩ := hR9
    have hz9 := hc9.size
    have hE := hE.step hc9 (fun k h => by rcases h with h | h <;> omega)
    have hK := hK0.ext hE
    have hT := hT.chg hc9 (fun h => by rcases h with h | h <;> omega) (fun h => by rcases h with h | h <;> omega) (fun e he k hk h => by have := hN1 e he k hk; rcases h with h | h <;> omega)
    have hN2 : ∀ e ∈ lt3, ∀ k, e.v.ownBlock = some k → w4.heap.size ≤ k := by
      intro e he k hk
      rcases hfr3 e he with h | h
      · exact hN2 e h k hk
      · have := h k hk; omega
    refine WL.nil ?_
    refine hK15 _ _ ?_; try clear hK15 K15
    refine CW.region ?_   -- region 15
    refine WL.val (Y.add rfl rfl ⟨by omega, by omega⟩) (by first | decide | exact Nat.le_of_ble_eq_true rfl) ?_   -- t93 := binOp add 3 t49 c(1:i64) 3
    refine WL.val (Y.move rfl) (by first | decide | exact Nat.le_of_ble_eq_true rfl) ?_   -- t49 := move t93
    refine WL.nil ?_
    have h10 : putE ls b ≠ 10 := by assumption
    have hJx := map_at hvb
    have hJ2 := map_at hvb2
    have hbJ : b2 ∈ (bss.map Prod.snd) := List.mem_of_getElem? hJ2
    have hlen1 := hH.len
    rw [List.length_take] at hlen1
    refine ⟨(ls2, lt3, x + 1), by show m - (x + 1) < m - x; omega, (by repeat (first | exact Fr.le.nil | refine Fr.le.cons rfl ?_)), by show x + 1 ≤ m; omega, hE, hT, hT2, hN1, hN2, ?_, fun hnc => ?_, by omega⟩
    · rw [take_succ hJx]
      exact hH.put h10 (by omega) hl1 hT.keys
    · have hK2 := hH2 hnc
      have hl := hK2.len
      rw [rotL_length] at hl
      have hP := hK2.put (hK2.no10 hnc (rotL_sub (by omega)) hbJ) (by omega) hl2 hu2
      rw [hP.again (by simp) hl3, rotL_succ (by rw [hJl, ← hq, ← hj2]; exact hJ2)]
      exact hP
  -- else
  refine CW.exit ?_   -- exit 0
  refine hK10 _ _ _ ?_; try clear hK10 K10
  refine CN.seq fun K23 hK23 => ?_
  refine CN.of_CW ?_
  refine CW.region ?_   -- region 16
  refine WL.alloc1 (z := .slice none 0 0) (by kernel_rfl) rfl (by first | decide | exact Nat.le_of_ble_eq_true rfl) fun g10 w10 hx10 hg10 hB10 => ?_   -- t10 := alloc 38
  have hlt10 := hB10.lt; have hz10 := hx10.size
  have hM10 := hB10.mem; have hz10 := hx10.size; have hE := hE.thenExt hx10; have hK := hK.ext hx10; have hT := hT.ext hx10; have hT2 := hT2.ext hx10; have hZ := hZ.ext hx10
  refine WL.alloc1 (z := .slice none 0 0) (by kernel_rfl) rfl (by first | decide | exact Nat.le_of_ble_eq_true rfl) fun g11 w11 hx11 hg11 hB11 => ?_   -- t11 := alloc 38
  have hlt11 := hB11.lt; have hz11 := hx11.size
  have hM11 := hB11.mem; have hz11 := hx11.size; have hE := hE.thenExt hx11; have hK := hK.ext hx11; have hT := hT.ext hx11; have hT2 := hT2.ext hx11; have hZ := hZ.ext hx11; have hB10 := hB10.ext hx11
  refine WL.nil ?_
  refine hK23 _ _ _ ?_; try clear hK23 K23
  refine CN.seq fun K24 hK24 => ?_
  refine CN.seq fun K25 hK25 => ?_
  refine CN.of_CW ?_
  refine CW.region ?_   -- region 17
  refine WL.val (Y.move rfl) (by first | decide | exact Nat.le_of_ble_eq_true rfl) ?_   -- t94 := move t5
  refine WL.call Tryd.func16 rfl rfl rfl (sall_any ⟨g, 0, none⟩ _) (by simp) ?_; rintro v95 w12 hR12   -- t95 := call F16(t94) : 23
  obtain ⟨bx12, rfl, hgb12, hBb12, hx12⟩ := hR12
  have hz12 := hx12.size
  have hE := hE.thenExt hx12
  have hK := hK.ext hx12
  have hT := hT.ext hx12
  have hT2 := hT2.ext hx12
  have hZ := hZ.ext hx12
  have hB10 := hB10.ext hx12
  have hB11 := hB11.ext hx12
  refine WL.nil ?_
  refine hK25 _ _ _ ?_; try clear hK25 K25
  refine CN.block ?_   -- block 2
  refine CN.range (rfl) Tryd.func27 rfl rfl (sall1_any g r bx12 ls _ hT hBb12) (fun _ => rfl) (by first | decide | exact Nat.le_of_ble_eq_true rfl) (fun _ h => h.elim) (fun w1 s V hz hs i hk => by have := hs.lo; have := hk.1; omega) (fun s i V => s.bs.length = ls.length ∧ w12.heap.size + 2 ≤ s.lo ∧ s.hi ≤ V.heap.size ∧ w12.heap.size + 2 ≤ V.heap.size ∧ (∀ v ∈ s.bs, ∀ k, v.ownBlock = some k → s.lo ≤ k ∧ k < s.hi) ∧ ∃ P, Own V TStr 1 P (flatS ((strL ls).take i)) ∧ (∀ k, P.ownBlock = some k → s.hi ≤ k ∧ w12.heap.size + 2 ≤ k) ∧ Blk V g10 TSs [P] ∧ Chg (fun k => k = g10) w12 V) (fun _ _ _ => False) ?_ ?_ ?_ ?_ ?_ ?_
  · intro w1_ s_ V hw_ hz_ hc_ hs_
    exact ⟨by rw [hs_.len, namesL_length], by have := hs_.lo; omega, hs_.hi, by have := hc_.size; omega, hs_.own, .slice none 0 0, Own.nil, (fun k h => by simp [Value.ownBlock] at h), (hB10.ext hw_).ext hc_, (Chg.refl.thenExt hw_).thenExt hc_⟩
  · intro s_ i_ V V_ hi_ hc_
    obtain ⟨hbl, hlo, hhi, hzz, hown, P12, hO12_, hfu12, hB10, hCC⟩ := hi_
    have := hc_.size
    exact ⟨hbl, hlo, by omega, by omega, hown, _, hO12_.chg hc_ (fun k hk h => by have := hfu12 k hk; rcases h with h | h; exact h; omega), hfu12, hB10.chg hc_ (fun h => by rcases h with h | h; exact h; omega), hCC.trans hc_ (fun k hk h => by rcases h with h | h; exact h.elim; omega)⟩
  · intro s_ e_ V V_ hi_ hc_
    exact hi_.elim
  · intro s_ i_ x_ w13 hi_ hx_ hat_ hz_
    obtain ⟨hbl, hlo, hhi, hzz, hown, P12, hO12_, hfu12, hB10, hCC⟩ := hi_
    have hzc := hCC.size
    have hE := hE.step hCC (fun k h => by omega)
    have hB11 := hB11.chg hCC (fun h => by omega)
    have hB12 := hB10
    have hOx := hat_ x_ hx_
    obtain ⟨d, xv⟩ := x_
    dsimp only at hOx
    obtain ⟨hnd, hnv⟩ := List.getElem?_zip_eq_some.1 hx_
    have hsx := strL_at hnd
    have hxo := hown _ (List.mem_of_getElem? hnv)
    obtain ⟨Ax, mx, cx, rfl⟩ := hOx.lens
    obtain ⟨B, mb, cb, rfl⟩ := hO12_.lens
    have hil : i_ < ls.length := by
      have := (List.getElem?_eq_some_iff.1 hsx).1
      rw [strL_length] at this; exact this
    refine CW.seq fun K26 hK26 => ?_
    refine CW.region ?_   -- region 18
    refine as_apiDigest rfl (by simp) (by first | decide | exact Nat.le_of_ble_eq_true rfl) fun g12 w14 hx14 hg12 hB12 => ?_   -- alloc 28; store 28 t12 t96
    have hlt12 := hB12.lt; have hz14 := hx14.size
    have hM12 := hB12.mem; have hz14 := hx14.size; have hE := hE.thenExt hx14; have hB10 := hB10.ext hx14; have hB11 := hB11.ext hx14
    refine WL.nil ?_
    refine hK26 _ _ ?_; try clear hK26 K26
    refine CW.region ?_   -- region 19
    refine WL.val (Y.assign rfl) (by first | decide | exact Nat.le_of_ble_eq_true rfl) ?_   -- t13 := assign t97
    refine WL.nil ?_
    have hE_ : Ext w13 w14 := hx14
    refine ⟨hE_, fun w15 hc_ => ?_⟩
    have hzd := hc_.size
    have hE := hE.step hc_ (fun k h => by omega)
    have hB12 := hB12.chg hc_ (fun h => by omega)
    have hB10 := hB10.chg hc_ (fun h => by omega)
    have hB11 := hB11.chg hc_ (fun h => by omega)
    have hO := (hO12_.ext hE_).chg hc_ (fun k hk h => by have := hfu12 k hk; omega)
    have hOx := (hOx.ext hE_).chg hc_ (fun k hk h => by have := hxo k hk; omega)
    have hCC := (hCC.ext hE_).trans hc_ (fun k hk h => by omega)
    have hlo2 := hO12_.lt
    refine CW.block ?_   -- block 3
    refine CW.held (fun wq => Chg (fun k => k = g10 ∨ (Value.slice B mb cb).ownBlock = some k) w15 wq) (by kernel_rfl) 9 rfl fun w16 hx16 => ?_
    have hS : Chg (fun k => k = g10 ∨ (Value.slice B mb cb).ownBlock = some k) w15 w16 := hx16.chg
    have hz16 := hx16.size
    have hB10 := hB10.ext hx16
    have hO := hO.ext hx16
    refine RH.take 1 (fun _ _ _ _ h => h) (by kernel_rfl) hS rfl (by kernel_rfl) (by kernel_rfl) (fun wq hq => Y.slice_arr Tryd.underlying28 rfl sz_uint8) (by first | decide | exact Nat.le_of_ble_eq_true rfl) ?_   -- t99 := slice 28 t12 none none none
    refine RH.take 2 (fun _ _ _ _ h => h) (by kernel_rfl) hS rfl (by kernel_rfl) (by kernel_rfl) (fun wq hq => Y.bytes_string Tryd.underlying26 Tryd.underlying5 Tryd.underlying9 rfl d.2 (fun _ => ⟨_, rfl, (hB12.chg hq (fun h => by rcases h with h | h; omega; have := hlo2 _ h; omega)).mem⟩) (fun h => by cases h)) (by first | decide | exact Nat.le_of_ble_eq_true rfl) ?_   -- t100 := convert 26 9 t99
    refine RH.take 3 (fun _ _ _ _ h => h) (by kernel_rfl) hS rfl (by kernel_rfl) (by kernel_rfl) (fun wq hq => Y.move rfl) (by first | decide | exact Nat.le_of_ble_eq_true rfl) ?_   -- t101 := move t13
    refine RH.take 4 (fun _ _ _ _ h => h) (by kernel_rfl) hS rfl (by kernel_rfl) (by kernel_rfl) (fun wq hq => Y.bytes_string Tryd.underlying26 Tryd.underlying5 Tryd.underlying9 rfl (hOx.chg hq (fun k hk h => by have := hxo k hk; rcases h with h | h; omega; have := hfu12 k h; omega)).by.len.1 (hOx.chg hq (fun k hk h => by have := hxo k hk; rcases h with h | h; omega; have := hfu12 k h; omega)).by.mem.1 (hOx.chg hq (fun k hk h => by have := hxo k hk; rcases h with h | h; omega; have := hfu12 k h; omega)).by.mem.2) (by first | decide | exact Nat.le_of_ble_eq_true rfl) ?_   -- t102 := convert 26 9 t101
    refine RH.take 5 (fun _ _ _ _ h => h) (by kernel_rfl) hS rfl (by kernel_rfl) (by kernel_rfl) (fun wq hq => Y.addS rfl rfl (by rw [bs_size, bs_size, d.2]; have := getB_le hT d; omega)) (by first | decide | exact Nat.le_of_ble_eq_true rfl) ?_   -- t103 := binOp add 9 t100 t102 9
    refine RH.two 0 6 (by kernel_rfl) ?_ ?_
    · skip
      refine RS.val rfl (Y.load1 Tryd.underlying38 rfl hB10.mem.cell0 rfl) (by first | decide | exact Nat.le_of_ble_eq_true rfl) ⟨hS, ?_⟩   -- t98 := load 38 t10
      refine RH.one 6 (by kernel_rfl) ?_
      refine RS.st rfl (St.buildSlice rfl (bs1_str _)) (by first | decide | exact Nat.le_of_ble_eq_true rfl) fun v104 w17 hR17 => ?_   -- buildSlice 38 1 [(0,t103)]
      obtain ⟨gS, rfl, hgS, hBS, hx17⟩ := hR17
      have hz17 := hx17.size
      have hS := hS.thenExt hx17
      have hO := hO.ext hx17
      have hB10 := hB10.ext hx17
      refine ⟨hS, ?_⟩
      refine RH.one 7 (by kernel_rfl) ?_
      refine RS.st rfl (St.append Tryd.underlying38 Tryd.underlying38 ai_str rfl rfl hO (Src.one hBS rfl) (one1 rfl) (by rw [flat_length strC_length, List.length_take]; have := hT.few; omega)) (by first | decide | exact Nat.le_of_ble_eq_true rfl) fun v105 w18 hR18 => ?_   -- call append(t98, t104) : 38,38
      obtain ⟨hO18, hc18, hf18⟩ := hR18
      have hz18 := hc18.size
      have hS := hS.trans hc18 (fun k _ h => .inr h)
      have hfn : ∀ k, v105.ownBlock = some k → s_.hi ≤ k ∧ w12.heap.size + 2 ≤ k := by
        rcases hf18 with h | h
        · intro k hk; rw [h] at hk; exact hfu12 k hk
        · intro k hk; have := h k hk; omega
      have hB10 := hB10.chg hc18 (fun h => by have := hfu12 _ h; omega)
      obtain ⟨C, mc, cc, rfl⟩ := hO18.lens
      refine ⟨hS, ?_⟩
      refine RH.one 8 (by kernel_rfl) ?_
      refine RS.store rfl (g := g10) (pre := []) (old := [.slice B mb cb]) (post := []) (new := [.slice C mc cc]) rfl rfl rfl rfl (by kernel_rfl) (by simpa using hB10) rfl (one1 rfl) (fun w19 hc19 hB19_ => ?_)   -- store 38 t10 t105
      have hBn : Blk w19 g10 TSs [.slice C mc cc] := by simpa using hB19_
      have hOn := hO18.chg hc19 (fun k hk h => by have := hfn k hk; omega)
      have hS := hS.trans hc19 (fun k _ h => .inl h)
      have hzS := hS.size
      refine ⟨hS, ?_⟩
      refine RH.done (by kernel_rfl) ?_
      have hE := hE.step hS (fun k h => by rcases h with h | h; omega; have := hfu12 k h; omega)
      have hCC := hCC.trans hS (fun k hk h => by rcases h with h | h; exact h; have := hfu12 k h; omega)
      refine ⟨⟨hbl, hlo, by omega, by omega, hown, _, ?_, hfn, hBn, hCC⟩, hS.mono fun k _ h => ⟨fun hk => ?_, ?_, ?_⟩⟩
      · rw [take_succ hsx]
        simpa [flatS, strC, bs_two] using hOn
      · rcases h with h | h
        · have := hk.1; omega
        · have := hfu12 k h; have := hk.2.1; omega
      · rcases h with h | h
        · omega
        · have := hfu12 k h; omega
      · rcases h with h | h
        · omega
        · have := hfu12 k h; omega
    · skip
      refine RS.st rfl (St.buildSlice rfl (bs1_str _)) (by first | decide | exact Nat.le_of_ble_eq_true rfl) fun v104 w20 hR20 => ?_   -- buildSlice 38 1 [(0,t103)]
      obtain ⟨gS, rfl, hgS, hBS, hx20⟩ := hR20
      have hz20 := hx20.size
      have hS := hS.thenExt hx20
      have hO := hO.ext hx20
      have hB10 := hB10.ext hx20
      refine ⟨hS, ?_⟩
      refine RH.one 0 (by kernel_rfl) ?_
      refine RS.val rfl (Y.load1 Tryd.underlying38 rfl hB10.mem.cell0 rfl) (by first | decide | exact Nat.le_of_ble_eq_true rfl) ⟨hS, ?_⟩   -- t98 := load 38 t10
      refine RH.one 7 (by kernel_rfl) ?_
      refine RS.st rfl (St.append Tryd.underlying38 Tryd.underlying38 ai_str rfl rfl hO (Src.one hBS rfl) (one1 rfl) (by rw [flat_length strC_length, List.length_take]; have := hT.few; omega)) (by first | decide | exact Nat.le_of_ble_eq_true rfl) fun v105 w21 hR21 => ?_   -- call append(t98, t104) : 38,38
      obtain ⟨hO21, hc21, hf21⟩ := hR21
      have hz21 := hc21.size
      have hS := hS.trans hc21 (fun k _ h => .inr h)
      have hfn : ∀ k, v105.ownBlock = some k → s_.hi ≤ k ∧ w12.heap.size + 2 ≤ k := by
        rcases hf21 with h | h
        · intro k hk; rw [h] at hk; exact hfu12 k hk
        · intro k hk; have := h k hk; omega
      have hB10 := hB10.chg hc21 (fun h => by have := hfu12 _ h; omega)
      obtain ⟨C, mc, cc, rfl⟩ := hO21.lens
      refine ⟨hS, ?_⟩
      refine RH.one 8 (by kernel_rfl) ?_
      refine RS.store rfl (g := g10) (pre := []) (old := [.slice B mb cb]) (post := []) (new := [.slice C mc cc]) rfl rfl rfl rfl (by kernel_rfl) (by simpa using hB10) rfl (one1 rfl) (fun w22 hc22 hB22_ => ?_)   -- store 38 t10 t105
      have hBn : Blk w22 g10 TSs [.slice C mc cc] := by simpa using hB22_
      have hOn := hO21.chg hc22 (fun k hk h => by have := hfn k hk; omega)
      have hS := hS.trans hc22 (fun k _ h => .inl h)
      have hzS := hS.size
      refine ⟨hS, ?_⟩
      refine RH.done (by kernel_rfl) ?_
      have hE := hE.step hS (fun k h => by rcases h with h | h; omega; have := hfu12 k h; omega)
      have hCC := hCC.trans hS (fun k hk h => by rcases h with h | h; exact h; have := hfu12 k h; omega)
      refine ⟨⟨hbl, hlo, by omega, by omega, hown, _, ?_, hfn, hBn, hCC⟩, hS.mono fun k _ h => ⟨fun hk => ?_, ?_, ?_⟩⟩
      · rw [take_succ hsx]
        simpa [flatS, strC, bs_two] using hOn
      · rcases h with h | h
        · have := hk.1; omega
        · have := hfu12 k h; have := hk.2.1; omega
      · rcases h with h | h
        · omega
        · have := hfu12 k h; omega
      · rcases h with h | h
        · omega
        · have := hfu12 k h; omega
  · intro s_ w23 hi_ hD_ hfin_
    obtain ⟨hbl, hlo, hhi, hzz, hown, P12, hO12_, hfu12, hB10, hCC⟩ := hi_
    have hxl : (allXs ls s_).length = ls.length := by simp only [allXs, List.length_zip, namesL_length, hbl]; omega
    rw [hxl, ← strL_length ls, List.take_length] at hO12_
    have hO12 := hO12_
    have hzc := hCC.size
    have hE := hE.step hCC (fun k h => by omega)
    have hK := hK0.ext hE
    obtain ⟨A12, m12, c12, rfl⟩ := hO12.lens
    have hT := hT.chg hCC (fun h => by omega) (fun h => by omega) (fun e he k hk h => by have := hL1 e he k hk; omega)
    have hT2 := hT2.chg hCC (fun h => by omega) (fun h => by omega) (fun e he k hk h => by have := hL2 e he k hk; omega)
    have hB11 := hB11.chg hCC (fun h => by omega)
    have hD1 := hD_
    refine hK24 _ _ _ ?_; try clear hK24 K24
    refine CN.seq fun K27 hK27 => ?_
    refine CN.seq fun K28 hK28 => ?_
    refine CN.of_CW ?_
    refine CW.region ?_   -- region 21
    refine WL.val (Y.move rfl) (by first | decide | exact Nat.le_of_ble_eq_true rfl) ?_   -- t106 := move t6
    refine WL.call Tryd.func16 rfl rfl rfl (sall_any ⟨g2, 0, none⟩ _) (by simp) ?_; rintro v107 w24 hR24   -- t107 := call F16(t106) : 23
    obtain ⟨bx24, rfl, hgb24, hBb24, hx24⟩ := hR24
    have hz24 := hx24.size
    have hE := hE.thenExt hx24
    have hK := hK.ext hx24
    have hT := hT.ext hx24
    have hT2 := hT2.ext hx24
    have hB10 := hB10.ext hx24
    have hB11 := hB11.ext hx24
    have hD1 := def_chg hD1 hx24 (fun h => h)
    refine WL.nil ?_
    refine hK28 _ _ _ ?_; try clear hK28 K28
    refine CN.block ?_   -- block 4
    refine CN.range (rfl) Tryd.func27 rfl rfl (sall1_any g2 r2 bx24 lt _ hT2 hBb24) (fun _ => rfl) (by first | decide | exact Nat.le_of_ble_eq_true rfl) (fun _ h => h.elim) (fun w1 s V hz hs i hk => by have := hs.lo; have := hk.1; omega) (fun s i V => s.bs.length = lt.length ∧ w24.heap.size + 2 ≤ s.lo ∧ s.hi ≤ V.heap.size ∧ w24.heap.size + 2 ≤ V.heap.size ∧ (∀ v ∈ s.bs, ∀ k, v.ownBlock = some k → s.lo ≤ k ∧ k < s.hi) ∧ ∃ P, Own V TStr 1 P (flatS ((strL lt).take i)) ∧ (∀ k, P.ownBlock = some k → s.hi ≤ k ∧ w24.heap.size + 2 ≤ k) ∧ Blk V g11 TSs [P] ∧ Chg (fun k => k = g11) w24 V) (fun _ _ _ => False) ?_ ?_ ?_ ?_ ?_ ?_
    · intro w1_ s_ V hw_ hz_ hc_ hs_
      exact ⟨by rw [hs_.len, namesL_length], by have := hs_.lo; omega, hs_.hi, by have := hc_.size; omega, hs_.own, .slice none 0 0, Own.nil, (fun k h => by simp [Value.ownBlock] at h), (hB11.ext hw_).ext hc_, (Chg.refl.thenExt hw_).thenExt hc_⟩
    · intro s_ i_ V V_ hi_ hc_
      obtain ⟨hbl, hlo, hhi, hzz, hown, P24, hO24_, hfu24, hB11, hCC⟩ := hi_
      have := hc_.size
      exact ⟨hbl, hlo, by omega, by omega, hown, _, hO24_.chg hc_ (fun k hk h => by have := hfu24 k hk; rcases h with h | h; exact h; omega), hfu24, hB11.chg hc_ (fun h => by rcases h with h | h; exact h; omega), hCC.trans hc_ (fun k hk h => by rcases h with h | h; exact h.elim; omega)⟩
    · intro s_ e_ V V_ hi_ hc_
      exact hi_.elim
    · intro s_ i_ x_ w25 hi_ hx_ hat_ hz_
      obtain ⟨hbl, hlo, hhi, hzz, hown, P24, hO24_, hfu24, hB11, hCC⟩ := hi_
      have hzc := hCC.size
      have hE := hE.step hCC (fun k h => by omega)
      have hB10 := hB10.chg hCC (fun h => by omega)
      have hB12 := hB10
      have hOx := hat_ x_ hx_
      obtain ⟨d, xv⟩ := x_
      dsimp only at hOx
      obtain ⟨hnd, hnv⟩ := List.getElem?_zip_eq_some.1 hx_
      have hsx := strL_at hnd
      have hxo := hown _ (List.mem_of_getElem? hnv)
      obtain ⟨Ax, mx, cx, rfl⟩ := hOx.lens
      obtain ⟨B, mb, cb, rfl⟩ := hO24_.lens
      have hil : i_ < lt.length := by
        have := (List.getElem?_eq_some_iff.1 hsx).1
        rw [strL_length] at this; exact this
      refine CW.seq fun K29 hK29 => ?_
      refine CW.region ?_   -- region 22
      refine as_apiDigest rfl (by simp) (by first | decide | exact Nat.le_of_ble_eq_true rfl) fun g14 w26 hx26 hg14 hB14 => ?_   -- alloc 28; store 28 t14 t108
      have hlt14 := hB14.lt; have hz26 := hx26.size
      have hM14 := hB14.mem; have hz26 := hx26.size; have hE := hE.thenExt hx26; have hB10 := hB10.ext hx26; have hB11 := hB11.ext hx26; have hB12 := hB12.ext hx26
      refine WL.nil ?_
      refine hK29 _ _ ?_; try clear hK29 K29
      refine CW.region ?_   -- region 23
      refine WL.val (Y.assign rfl) (by first | decide | exact Nat.le_of_ble_eq_true rfl) ?_   -- t15 := assign t109
      refine WL.nil ?_
      have hE_ : Ext w25 w26 := hx26
      refine ⟨hE_, fun w27 hc_ => ?_⟩
      have hzd := hc_.size
      have hE := hE.step hc_ (fun k h => by omega)
      have hB14 := hB14.chg hc_ (fun h => by omega)
      have hB11 := hB11.chg hc_ (fun h => by omega)
      have hB10 := hB10.chg hc_ (fun h => by omega)
      have hB12 := hB10
      have hO := (hO24_.ext hE_).chg hc_ (fun k hk h => by have := hfu24 k hk; omega)
      have hOx := (hOx.ext hE_).chg hc_ (fun k hk h => by have := hxo k hk; omega)
      have hCC := (hCC.ext hE_).trans hc_ (fun k hk h => by omega)
      have hlo2 := hO24_.lt
      refine CW.block ?_   -- block 5
      refine CW.held (fun wq => Chg (fun k => k = g11 ∨ (Value.slice B mb cb).ownBlock = some k) w27 wq) (by kernel_rfl) 9 rfl fun w28 hx28 => ?_
      have hS : Chg (fun k => k = g11 ∨ (Value.slice B mb cb).ownBlock = some k) w27 w28 := hx28.chg
      have hz28 := hx28.size
      have hB11 := hB11.ext hx28
      have hO := hO.ext hx28
      refine RH.take 1 (fun _ _ _ _ h => h) (by kernel_rfl) hS rfl (by kernel_rfl) (by kernel_rfl) (fun wq hq => Y.slice_arr Tryd.underlying28 rfl sz_uint8) (by first | decide | exact Nat.le_of_ble_eq_true rfl) ?_   -- t111 := slice 28 t14 none none none
      refine RH.take 2 (fun _ _ _ _ h => h) (by kernel_rfl) hS rfl (by kernel_rfl) (by kernel_rfl) (fun wq hq => Y.bytes_string Tryd.underlying26 Tryd.underlying5 Tryd.underlying9 rfl d.2 (fun _ => ⟨_, rfl, (hB14.chg hq (fun h => by rcases h with h | h; omega; have := hlo2 _ h; omega)).mem⟩) (fun h => by cases h)) (by first | decide | exact Nat.le_of_ble_eq_true rfl) ?_   -- t112 := convert 26 9 t111
      refine RH.take 3 (fun _ _ _ _ h => h) (by kernel_rfl) hS rfl (by kernel_rfl) (by kernel_rfl) (fun wq hq => Y.move rfl) (by first | decide | exact Nat.le_of_ble_eq_true rfl) ?_   -- t113 := move t15
      refine RH.take 4 (fun _ _ _ _ h => h) (by kernel_rfl) hS rfl (by kernel_rfl) (by kernel_rfl) (fun wq hq => Y.bytes_string Tryd.underlying26 Tryd.underlying5 Tryd.underlying9 rfl (hOx.chg hq (fun k hk h => by have := hxo k hk; rcases h with h | h; omega; have := hfu24 k h; omega)).by.len.1 (hOx.chg hq (fun k hk h => by have := hxo k hk; rcases h with h | h; omega; have := hfu24 k h; omega)).by.mem.1 (hOx.chg hq (fun k hk h => by have := hxo k hk; rcases h with h | h; omega; have := hfu24 k h; omega)).by.mem.2) (by first | decide | exact Nat.le_of_ble_eq_true rfl) ?_   -- t114 := convert 26 9 t113
      refine RH.take 5 (fun _ _ _ _ h => h) (by kernel_rfl) hS rfl (by kernel_rfl) (by kernel_rfl) (fun wq hq => Y.addS rfl rfl (by rw [bs_size, bs_size, d.2]; have := getB_le hT2 d; omega)) (by first | decide | exact Nat.le_of_ble_eq_true rfl) ?_   -- t115 := binOp add 9 t112 t114 9
      refine RH.two 0 6 (by kernel_rfl) ?_ ?_
      · skip
        refine RS.val rfl (Y.load1 Tryd.underlying38 rfl hB11.mem.cell0 rfl) (by first | decide | exact Nat.le_of_ble_eq_true rfl) ⟨hS, ?_⟩   -- t110 := load 38 t11
        refine RH.one 6 (by kernel_rfl) ?_
        refine RS.st rfl (St.buildSlice rfl (bs1_str _)) (by first | decide | exact Nat.le_of_ble_eq_true rfl) fun v116 w29 hR29 => ?_   -- buildSlice 38 1 [(0,t115)]
        obtain ⟨gS, rfl, hgS, hBS, hx29⟩ := hR29
        have hz29 := hx29.size
        have hS := hS.thenExt hx29
        have hO := hO.ext hx29
        have hB11 := hB11.ext hx29
        refine ⟨hS, ?_⟩
        refine RH.one 7 (by kernel_rfl) ?_
        refine RS.st rfl (St.append Tryd.underlying38 Tryd.underlying38 ai_str rfl rfl hO (Src.one hBS rfl) (one1 rfl) (by rw [flat_length strC_length, List.length_take]; have := hT2.few; omega)) (by first | decide | exact Nat.le_of_ble_eq_true rfl) fun v117 w30 hR30 => ?_   -- call append(t110, t116) : 38,38
        obtain ⟨hO30, hc30, hf30⟩ := hR30
        have hz30 := hc30.size
        have hS := hS.trans hc30 (fun k _ h => .inr h)
        have hfn : ∀ k, v117.ownBlock = some k → s_.hi ≤ k ∧ w24.heap.size + 2 ≤ k := by
          rcases hf30 with h | h
          · intro k hk; rw [h] at hk; exact hfu24 k hk
          · intro k hk; have := h k hk; omega
        have hB11 := hB11.chg hc30 (fun h => by have := hfu24 _ h; omega)
        obtain ⟨C, mc, cc, rfl⟩ := hO30.lens
        refine ⟨hS, ?_⟩
        refine RH.one 8 (by kernel_rfl) ?_
        refine RS.store rfl (g := g11) (pre := []) (old := [.slice B mb cb]) (post := []) (new := [.slice C mc cc]) rfl rfl rfl rfl (by kernel_rfl) (by simpa using hB11) rfl (one1 rfl) (fun w31 hc31 hB31_ => ?_)   -- store 38 t11 t117
        have hBn : Blk w31 g11 TSs [.slice C mc cc] := by simpa using hB31_
        have hOn := hO30.chg hc31 (fun k hk h => by have := hfn k hk; omega)
        have hS := hS.trans hc31 (fun k _ h => .inl h)
        have hzS := hS.size
        refine ⟨hS, ?_⟩
        refine RH.done (by kernel_rfl) ?_
        have hE := hE.step hS (fun k h => by rcases h with h | h; omega; have := hfu24 k h; omega)
        have hCC := hCC.trans hS (fun k hk h => by rcases h with h | h; exact h; have := hfu24 k h; omega)
        refine ⟨⟨hbl, hlo, by omega, by omega, hown, _, ?_, hfn, hBn, hCC⟩, hS.mono fun k _ h => ⟨fun hk => ?_, ?_, ?_⟩⟩
        · rw [take_succ hsx]
          simpa [flatS, strC, bs_two] using hOn
        · rcases h with h | h
          · have := hk.1; omega
          · have := hfu24 k h; have := hk.2.1; omega
        · rcases h with h | h
          · omega
          · have := hfu24 k h; omega
        · rcases h with h | h
          · omega
          · have := hfu24 k h; omega
      · skip
        refine RS.st rfl (St.buildSlice rfl (bs1_str _)) (by first | decide | exact Nat.le_of_ble_eq_true rfl) fun v116 w32 hR32 => ?_   -- buildSlice 38 1 [(0,t115)]
        obtain ⟨gS, rfl, hgS, hBS, hx32⟩ := hR32
        have hz32 := hx32.size
        have hS := hS.thenExt hx32
        have hO := hO.ext hx32
        have hB11 := hB11.ext hx32
        refine ⟨hS, ?_⟩
        refine RH.one 0 (by kernel_rfl) ?_
        refine RS.val rfl (Y.load1 Tryd.underlying38 rfl hB11.mem.cell0 rfl) (by first | decide | exact Nat.le_of_ble_eq_true rfl) ⟨hS, ?_⟩   -- t110 := load 38 t11
        refine RH.one 7 (by kernel_rfl) ?_
        refine RS.st rfl (St.append Tryd.underlying38 Tryd.underlying38 ai_str rfl rfl hO (Src.one hBS rfl) (one1 rfl) (by rw [flat_length strC_length, List.length_take]; have := hT2.few; omega)) (by first | decide | exact Nat.le_of_ble_eq_true rfl) fun v117 w33 hR33 => ?_   -- call append(t110, t116) : 38,38
        obtain ⟨hO33, hc33, hf33⟩ := hR33
        have hz33 := hc33.size
        have hS := hS.trans hc33 (fun k _ h => .inr h)
        have hfn : ∀ k, v117.ownBlock = some k → s_.hi ≤ k ∧ w24.heap.size + 2 ≤ k := by
          rcases hf33 with h | h
          · intro k hk; rw [h] at hk; exact hfu24 k hk
          · intro k hk; have := h k hk; omega
        have hB11 := hB11.chg hc33 (fun h => by have := hfu24 _ h; omega)
        obtain ⟨C, mc, cc, rfl⟩ := hO33.lens
        refine ⟨hS, ?_⟩
        refine RH.one 8 (by kernel_rfl) ?_
        refine RS.store rfl (g := g11) (pre := []) (old := [.slice B mb cb]) (post := []) (new := [.slice C mc cc]) rfl rfl rfl rfl (by kernel_rfl) (by simpa using hB11) rfl (one1 rfl) (fun w34 hc34 hB34_ => ?_)   -- store 38 t11 t117
        have hBn : Blk w34 g11 TSs [.slice C mc cc] := by simpa using hB34_
        have hOn := hO33.chg hc34 (fun k hk h => by have := hfn k hk; omega)
        have hS := hS.trans hc34 (fun k _ h => .inl h)
        have hzS := hS.size
        refine ⟨hS, ?_⟩
        refine RH.done (by kernel_rfl) ?_
        have hE := hE.step hS (fun k h => by rcases h with h | h; omega; have := hfu24 k h; omega)
        have hCC := hCC.trans hS (fun k hk h => by rcases h with h | h; exact h; have := hfu24 k h; omega)
        refine ⟨⟨hbl, hlo, by omega, by omega, hown, _, ?_, hfn, hBn, hCC⟩, hS.mono fun k _ h => ⟨fun hk => ?_, ?_, ?_⟩⟩
        · rw [take_succ hsx]
          simpa [flatS, strC, bs_two] using hOn
        · rcases h with h | h
          · have := hk.1; omega
          · have := hfu24 k h; have := hk.2.1; omega
        · rcases h with h | h
          · omega
          · have := hfu24 k h; omega
        · rcases h with h | h
          · omega
          · have := hfu24 k h; omega
    · intro s_ w35 hi_ hD_ hfin_
      obtain ⟨hbl, hlo, hhi, hzz, hown, P24, hO24_, hfu24, hB11, hCC⟩ := hi_
      have hxl : (allXs lt s_).length = lt.length := by simp only [allXs, List.length_zip, namesL_length, hbl]; omega
      rw [hxl, ← strL_length lt, List.take_length] at hO24_
      have hO24 := hO24_
      have hzc := hCC.size
      have hE := hE.step hCC (fun k h => by omega)
      have hK := hK0.ext hE
      obtain ⟨A24, m24, c24, rfl⟩ := hO24.lens
      have hT := hT.chg hCC (fun h => by omega) (fun h => by omega) (fun e he k hk h => by have := hL1 e he k hk; omega)
      have hT2 := hT2.chg hCC (fun h => by omega) (fun h => by omega) (fun e he k hk h => by have := hL2 e he k hk; omega)
      have hB10 := hB10.chg hCC (fun h => by omega)
      have hD1 := def_chg hD1 hCC (fun h => by omega)
      have hD2 := hD_
      have hO12 := ((hO12.ext hx24).chg hCC (fun k hk h => by have := hfu12 k hk; omega))
      have hxm : x = m := by omega
      have hHa : Holds ls (bss.map Prod.snd) := by rw [hxm, ← hJl, List.take_length] at hH; exact hH
      rw [hxm, ← hJl] at hH2
      have hbk : by_ < (bss.map Prod.snd).length := by omega
      have hnc := hHa.noColl
      have hHb := hH2 hnc
      have hso := fun d => hHa.same hHb (rotL_all hbk) d
      have hss := strL_same hT.keys hT2.keys hso
      have htt := total_same hT.keys hT2.keys hso
      rw [← hss] at hO24
      have h12 := (Own.len strC_length (by decide) hO12).1
      have h24 := (Own.len strC_length (by decide) hO24).1
      have hZ : Ext w35 w35 := Chg.refl
      refine hK27 _ _ _ ?_; try clear hK27 K27
      refine CN.seq fun K30 hK30 => ?_
      refine CN.seq_testE 129 (False) ?_ ?_
      · refine CW.region ?_
        refine WL.val (Y.load1 Tryd.underlying38 rfl hB10.mem.cell0 rfl) (by first | decide | exact Nat.le_of_ble_eq_true rfl) ?_   -- t118 := load 38 t10
        refine WL.val (Y.len_slice Tryd.underlying38 rfl) (by first | decide | exact Nat.le_of_ble_eq_true rfl) ?_   -- t119 := call len(t118) : 38
        refine WL.val (Y.load1 Tryd.underlying38 rfl hB11.mem.cell0 rfl) (by first | decide | exact Nat.le_of_ble_eq_true rfl) ?_   -- t120 := load 38 t11
        refine WL.val (Y.len_slice Tryd.underlying38 rfl) (by first | decide | exact Nat.le_of_ble_eq_true rfl) ?_   -- t121 := call len(t120) : 38
        refine WL.val (Y.neq rfl rfl) (by first | decide | exact Nat.le_of_ble_eq_true rfl) ?_   -- t122 := binOp neq 3 t119 t121 3
        refine WL.val (Y.move rfl) (by first | decide | exact Nat.le_of_ble_eq_true rfl) ?_   -- t123 := move t122
        first | refine WL.casesD (d := 123) rfl (fun hg123 => ?_) (fun hg123 => ?_) | refine WL.casesND (d := 123) rfl (fun hg123 => ?_) (fun hg123 => ?_) | refine WL.cases (d := 123) rfl (fun hg123 => ?_) (fun hg123 => ?_)
        · -- t123 = T
          refine WL.goff rfl rfl (by first | decide | exact Nat.le_of_ble_eq_true rfl) ?_   -- t124 := move t5 [if 5=false]
          refine WL.goff rfl rfl (by first | decide | exact Nat.le_of_ble_eq_true rfl) ?_   -- t125 := call F14(t124) : 23 [if 5=false]
          refine WL.goff rfl rfl (by first | decide | exact Nat.le_of_ble_eq_true rfl) ?_   -- t126 := move t6 [if 5=false]
          refine WL.goff rfl rfl (by first | decide | exact Nat.le_of_ble_eq_true rfl) ?_   -- t127 := call F14(t126) : 23 [if 5=false]
          refine WL.goff rfl rfl (by first | decide | exact Nat.le_of_ble_eq_true rfl) ?_   -- t128 := binOp neq 3 t125 t127 3 [if 5=false]
          refine WL.val (Y.pick rfl rfl) (by first | decide | exact Nat.le_of_ble_eq_true rfl) ?_   -- t129 := pick t123 c(true) t128
          refine WL.nil ⟨⟨_, rfl, ?_⟩, Chg.refl, (by repeat (first | exact Fr.le.refl | refine Fr.le.push rfl ?_))⟩
          first | (simp only [*, Int.natCast_inj, Bool.not_eq_true', decide_eq_false_iff_not, decide_eq_true_eq, not_true_eq_false, not_false_eq_true, true_and, false_and, and_true, and_false, false_or, or_false, true_or, or_true, iff_true, true_iff, iff_false, false_iff]; done) | (simp_all; done) | (refine congrArg Value.bool (Bool.eq_iff_iff.2 ?_); simp_all; done) | (simp_all; omega)
        · -- t123 = F
          refine WL.gval rfl rfl (Y.move rfl) (by first | decide | exact Nat.le_of_ble_eq_true rfl) ?_   -- t124 := move t5 [if 5=false]
          refine WL.gcall rfl rfl Tryd.func14 rfl rfl rfl (stSize_any g r ls _ hT) (by first | decide | exact Nat.le_of_ble_eq_true rfl) ?_; rintro v w36 ⟨rfl, hx36⟩; have hz36 := hx36.size; have hE := hE.thenExt hx36; have hK := hK.ext hx36; have hT := hT.ext hx36; have hT2 := hT2.ext hx36; have hZ := hZ.ext hx36; have hB10 := hB10.ext hx36; have hB11 := hB11.ext hx36   -- t125 := call F14(t124) : 23 [if 5=false]
          refine WL.gval rfl rfl (Y.move rfl) (by first | decide | exact Nat.le_of_ble_eq_true rfl) ?_   -- t126 := move t6 [if 5=false]
          refine WL.gcall rfl rfl Tryd.func14 rfl rfl rfl (stSize_any g2 r2 lt _ hT2) (by first | decide | exact Nat.le_of_ble_eq_true rfl) ?_; rintro v w37 ⟨rfl, hx37⟩; have hz37 := hx37.size; have hE := hE.thenExt hx37; have hK := hK.ext hx37; have hT := hT.ext hx37; have hT2 := hT2.ext hx37; have hZ := hZ.ext hx37; have hB10 := hB10.ext hx37; have hB11 := hB11.ext hx37   -- t127 := call F14(t126) : 23 [if 5=false]
          refine WL.gval rfl rfl (Y.neq rfl rfl) (by first | decide | exact Nat.le_of_ble_eq_true rfl) ?_   -- t128 := binOp neq 3 t125 t127 3 [if 5=false]
          refine WL.val (Y.pick rfl rfl) (by first | decide | exact Nat.le_of_ble_eq_true rfl) ?_   -- t129 := pick t123 c(true) t128
          refine WL.nil ⟨⟨_, rfl, ?_⟩, (hx36.thenExt hx37), (by repeat (first | exact Fr.le.refl | refine Fr.le.push rfl ?_))⟩
          first | (simp only [*, Int.natCast_inj, Bool.not_eq_true', decide_eq_false_iff_not, decide_eq_true_eq, not_true_eq_false, not_false_eq_true, true_and, false_and, and_true, and_false, false_or, or_false, true_or, or_true, iff_true, true_iff, iff_false, false_iff]; done) | (simp_all; done) | (refine congrArg Value.bool (Bool.eq_iff_iff.2 ?_); simp_all; done) | (simp_all; omega)
      intro w38 hx38; have hz38 := hx38.size; have hE := hE.thenExt hx38; have hK := hK.ext hx38; have hT := hT.ext hx38; have hT2 := hT2.ext hx38; have hZ := hZ.ext hx38; have hB10 := hB10.ext hx38; have hB11 := hB11.ext hx38
      first | refine CN.condD rfl (fun ht31 => ?_) (fun ht31 => ?_) | refine CN.condND rfl (fun ht31 => ?_) (fun ht31 => ?_) | refine CN.condN rfl (fun ht31 => ?_) (fun ht31 => ?_) | refine CN.cond rfl (fun ht31 => ?_) (fun ht31 => ?_)
      · -- then
        refine CN.seq fun K32 hK32 => ?_
        refine CN.of_CW ?_
        refine CW.region ?_   -- region 26
        refine WL.val (Y.assign rfl) (by first | decide | exact Nat.le_of_ble_eq_true rfl) ?_   -- t4 := assign c(false)
        refine WL.nil ?_
        refine hK32 _ _ _ ?_; try clear hK32 K32
        refine CN.ret ?_
        exact False.elim (by assumption)
      -- else
      refine CN.skip ?_
      refine hK30 _ _ _ ?_; try clear hK30 K30
      refine CN.seq fun K33 hK33 => ?_
      refine CN.seq fun K34 hK34 => ?_
      refine CN.of_CW ?_
      refine CW.region ?_   -- region 27
      refine WL.val (Y.load1 Tryd.underlying38 rfl hB10.mem.cell0 rfl) (by first | decide | exact Nat.le_of_ble_eq_true rfl) ?_   -- t130 := load 38 t10
      refine WL.val (Y.len_slice Tryd.underlying38 rfl) (by first | decide | exact Nat.le_of_ble_eq_true rfl) ?_   -- t131 := call len(t130) : 38
      refine WL.val (Y.move rfl) (by first | decide | exact Nat.le_of_ble_eq_true rfl) ?_   -- t132 := move c(0:i64)
      refine WL.nil ?_
      refine hK34 _ _ _ ?_; try clear hK34 K34
      refine CN.block ?_   -- block 6
      refine CN.of_CW ?_
      refine CW.loop (X := Nat) (fun x => [(10, .pointer (some ⟨g10, 0, none⟩)), (11, .pointer (some ⟨g11, 0, none⟩)), (131, .int .i64 (m12 : Int)), (132, .int .i64 (x : Int))]) (fun x w0 => x ≤ m12 ∧ Ext w38 w0) (fun x => m12 - x) 0 (by repeat (first | exact Fr.le.nil | refine Fr.le.cons rfl ?_)) ⟨Nat.zero_le _, Chg.refl⟩ ?_
      intro x w39 hl39
      obtain ⟨hx, hxx⟩ := hl39
      have hE := hE.thenExt hxx
      have hK := hK.ext hxx
      have hT := hT.ext hxx
      have hT2 := hT2.ext hxx
      have hB10 := hB10.ext hxx
      have hB11 := hB11.ext hxx
      have hZ := hZ.ext hxx
      have hO12 := hO12.ext hZ
      have hO24 := hO24.ext hZ
      have hsl := strL_length ls
      have hfew := hT.few
      refine CW.seq fun K35 hK35 => ?_
      refine CW.region ?_   -- region 28
      refine WL.val (Y.lss rfl rfl) (by first | decide | exact Nat.le_of_ble_eq_true rfl) ?_   -- t133 := binOp lss 3 t132 t131 3
      refine WL.nil ?_
      refine hK35 _ _ ?_; try clear hK35 K35
      refine CW.seq fun K36 hK36 => ?_
      first | refine CW.condD rfl (fun ht37 => ?_) (fun ht37 => ?_) | refine CW.condND rfl (fun ht37 => ?_) (fun ht37 => ?_) | refine CW.condN rfl (fun ht37 => ?_) (fun ht37 => ?_) | refine CW.cond rfl (fun ht37 => ?_) (fun ht37 => ?_)
      · -- then
        refine CW.skip ?_
        refine hK36 _ _ ?_; try clear hK36 K36
        refine CW.seq fun K38 hK38 => ?_
        refine CW.block ?_   -- block 7
        refine CW.seq fun K39 hK39 => ?_
        refine CW.region ?_   -- region 29
        refine WL.val (Y.move rfl) (by first | decide | exact Nat.le_of_ble_eq_true rfl) ?_   -- t134 := move t132
        refine WL.val (Y.assign rfl) (by first | decide | exact Nat.le_of_ble_eq_true rfl) ?_   -- t16 := assign t134
        refine WL.nil ?_
        refine hK39 _ _ ?_; try clear hK39 K39
        obtain ⟨p, hp⟩ : ∃ p, (strL ls)[x]? = some p := ⟨_, List.getElem?_eq_getElem (by omega)⟩
        obtain ⟨p1, hgp⟩ : ∃ p1, 0 < x → (strL ls)[x - 1]? = some p1 := ⟨((strL ls)[x - 1]?).getD [], fun h => by rw [List.getElem?_eq_getElem (by omega)]; rfl⟩
        obtain ⟨aa, rfl, hpa⟩ := (hO12.sl strC_length (by decide)).at hp
        obtain ⟨ab, rfl, hqa⟩ := (hO24.sl strC_length (by decide)).at hp
        have hpm : 0 < x → Mem w39 (aa.add ((x - 1) * 1)) (strC p1) := fun h => by obtain ⟨_, he, hh⟩ := (hO12.sl strC_length (by decide)).at (hgp h); cases he; exact hh
        have hless : 0 < x → Op.bytesLess p1 p = true := fun h => pairwise_at (strL_up hT.keys) (by omega) (hgp h) hp
        refine CW.seq_testE 159 (False) ?_ ?_
        · refine CW.quiet (fun wq => Ext w39 wq) (by kernel_rfl) (by kernel_rfl) Chg.drew ?_
          refine QL.val (fun wq hq => Y.load1 Tryd.underlying38 rfl (hB10.ext hq).mem.cell0 rfl) (by first | decide | exact Nat.le_of_ble_eq_true rfl) ?_   -- t135 := load 38 t10
          refine QL.val (fun wq hq => Y.move rfl) (by first | decide | exact Nat.le_of_ble_eq_true rfl) ?_   -- t136 := move t16
          refine QL.val (fun wq hq => Y.indexAddrN Tryd.underlying38 rfl rfl sz0_string (by omega)) (by first | decide | exact Nat.le_of_ble_eq_true rfl) ?_   -- t137 := indexAddr 38 t135 t136
          refine QL.val (fun wq hq => Y.load1 Tryd.underlying9 rfl (hpa.ext hq).cell0 rfl) (by first | decide | exact Nat.le_of_ble_eq_true rfl) ?_   -- t138 := load 9 t137
          refine QL.val (fun wq hq => Y.load1 Tryd.underlying38 rfl (hB11.ext hq).mem.cell0 rfl) (by first | decide | exact Nat.le_of_ble_eq_true rfl) ?_   -- t139 := load 38 t11
          refine QL.val (fun wq hq => Y.move rfl) (by first | decide | exact Nat.le_of_ble_eq_true rfl) ?_   -- t140 := move t16
          refine QL.val (fun wq hq => Y.indexAddrN Tryd.underlying38 rfl rfl sz0_string (by omega)) (by first | decide | exact Nat.le_of_ble_eq_true rfl) ?_   -- t141 := indexAddr 38 t139 t140
          refine QL.val (fun wq hq => Y.load1 Tryd.underlying9 rfl (hqa.ext hq).cell0 rfl) (by first | decide | exact Nat.le_of_ble_eq_true rfl) ?_   -- t142 := load 9 t141
          refine QL.val (fun wq hq => Y.neq_same rfl rfl) (by first | decide | exact Nat.le_of_ble_eq_true rfl) ?_   -- t143 := binOp neq 9 t138 t142 9
          refine QL.val (fun wq hq => Y.move rfl) (by first | decide | exact Nat.le_of_ble_eq_true rfl) ?_   -- t144 := move t143
          first | refine QL.casesD (d := 144) rfl (fun hg144 => ?_) (fun hg144 => ?_) | refine QL.casesND (d := 144) rfl (fun hg144 => ?_) (fun hg144 => ?_) | refine QL.cases (d := 144) rfl (fun hg144 => ?_) (fun hg144 => ?_)
          · -- t144 = T
            refine QL.goff rfl rfl (by first | decide | exact Nat.le_of_ble_eq_true rfl) ?_   -- t145 := move t16 [if 9=false]
            refine QL.goff rfl rfl (by first | decide | exact Nat.le_of_ble_eq_true rfl) ?_   -- t146 := binOp gtr 3 t145 c(0:i64) 3 [if 9=false]
            refine QL.goff rfl rfl (by first | decide | exact Nat.le_of_ble_eq_true rfl) ?_   -- t147 := move t146 [if 9=false]
            refine QL.goffU rfl rfl (by first | decide | exact Nat.le_of_ble_eq_true rfl) ?_   -- t148 := load 38 t10 [if 12=true]
            refine QL.goffU rfl rfl (by first | decide | exact Nat.le_of_ble_eq_true rfl) ?_   -- t149 := move t16 [if 12=true]
            refine QL.goffU rfl rfl (by first | decide | exact Nat.le_of_ble_eq_true rfl) ?_   -- t150 := binOp sub 3 t149 c(1:i64) 3 [if 12=true]
            refine QL.goffU rfl rfl (by first | decide | exact Nat.le_of_ble_eq_true rfl) ?_   -- t151 := indexAddr 38 t148 t150 [if 12=true]
            refine QL.goffU rfl rfl (by first | decide | exact Nat.le_of_ble_eq_true rfl) ?_   -- t152 := load 9 t151 [if 12=true]
            refine QL.goffU rfl rfl (by first | decide | exact Nat.le_of_ble_eq_true rfl) ?_   -- t153 := load 38 t10 [if 12=true]
            refine QL.goffU rfl rfl (by first | decide | exact Nat.le_of_ble_eq_true rfl) ?_   -- t154 := move t16 [if 12=true]
            refine QL.goffU rfl rfl (by first | decide | exact Nat.le_of_ble_eq_true rfl) ?_   -- t155 := indexAddr 38 t153 t154 [if 12=true]
            refine QL.goffU rfl rfl (by first | decide | exact Nat.le_of_ble_eq_true rfl) ?_   -- t156 := load 9 t155 [if 12=true]
            refine QL.goffU rfl rfl (by first | decide | exact Nat.le_of_ble_eq_true rfl) ?_   -- t157 := binOp geq 9 t152 t156 9 [if 12=true]
            refine QL.goff rfl rfl (by first | decide | exact Nat.le_of_ble_eq_true rfl) ?_   -- t158 := pick t147 t157 c(false) [if 9=false]
            refine QL.val (fun wq hq => Y.pick rfl rfl) (by first | decide | exact Nat.le_of_ble_eq_true rfl) ?_   -- t159 := pick t144 c(true) t158
            refine QL.nil fun wq hq => ⟨⟨_, rfl, ?_⟩, hq, (by repeat (first | exact Fr.le.refl | refine Fr.le.push rfl ?_))⟩
            first | (simp only [*, Int.natCast_inj, Bool.not_eq_true', decide_eq_false_iff_not, decide_eq_true_eq, not_true_eq_false, not_false_eq_true, true_and, false_and, and_true, and_false, false_or, or_false, true_or, or_true, iff_true, true_iff, iff_false, false_iff]; done) | (simp_all; done) | (refine congrArg Value.bool (Bool.eq_iff_iff.2 ?_); simp_all; done) | (simp_all; omega)
          · -- t144 = F
            refine QL.gval rfl rfl (fun wq hq => Y.move rfl) (by first | decide | exact Nat.le_of_ble_eq_true rfl) ?_   -- t145 := move t16 [if 9=false]
            refine QL.gval rfl rfl (fun wq hq => Y.gtr rfl rfl) (by first | decide | exact Nat.le_of_ble_eq_true rfl) ?_   -- t146 := binOp gtr 3 t145 c(0:i64) 3 [if 9=false]
            refine QL.gval rfl rfl (fun wq hq => Y.move rfl) (by first | decide | exact Nat.le_of_ble_eq_true rfl) ?_   -- t147 := move t146 [if 9=false]
            first | refine QL.casesD (d := 147) rfl (fun hg147 => ?_) (fun hg147 => ?_) | refine QL.casesND (d := 147) rfl (fun hg147 => ?_) (fun hg147 => ?_) | refine QL.cases (d := 147) rfl (fun hg147 => ?_) (fun hg147 => ?_)
            · -- t147 = T
              refine QL.gval rfl rfl (fun wq hq => Y.load1 Tryd.underlying38 rfl (hB10.ext hq).mem.cell0 rfl) (by first | decide | exact Nat.le_of_ble_eq_true rfl) ?_   -- t148 := load 38 t10 [if 12=true]
              refine QL.gval rfl rfl (fun wq hq => Y.move rfl) (by first | decide | exact Nat.le_of_ble_eq_true rfl) ?_   -- t149 := move t16 [if 12=true]
              refine QL.gval rfl rfl (fun wq hq => Y.sub rfl rfl ⟨by omega, by omega⟩) (by first | decide | exact Nat.le_of_ble_eq_true rfl) ?_   -- t150
              rw [show (x : Int) - 1 = ((x - 1 : Nat) : Int) from by omega]
              refine QL.gval rfl rfl (fun wq hq => Y.indexAddrN Tryd.underlying38 rfl rfl sz0_string (by omega)) (by first | decide | exact Nat.le_of_ble_eq_true rfl) ?_   -- t151 := indexAddr 38 t148 t150 [if 12=true]
              refine QL.gval rfl rfl (fun wq hq => Y.load1 Tryd.underlying9 rfl ((hpm (by omega)).ext hq).cell0 rfl) (by first | decide | exact Nat.le_of_ble_eq_true rfl) ?_   -- t152 := load 9 t151 [if 12=true]
              refine QL.gval rfl rfl (fun wq hq => Y.load1 Tryd.underlying38 rfl (hB10.ext hq).mem.cell0 rfl) (by first | decide | exact Nat.le_of_ble_eq_true rfl) ?_   -- t153 := load 38 t10 [if 12=true]
              refine QL.gval rfl rfl (fun wq hq => Y.move rfl) (by first | decide | exact Nat.le_of_ble_eq_true rfl) ?_   -- t154 := move t16 [if 12=true]
              refine QL.gval rfl rfl (fun wq hq => Y.indexAddrN Tryd.underlying38 rfl rfl sz0_string (by omega)) (by first | decide | exact Nat.le_of_ble_eq_true rfl) ?_   -- t155 := indexAddr 38 t153 t154 [if 12=true]
              refine QL.gval rfl rfl (fun wq hq => Y.load1 Tryd.underlying9 rfl (hpa.ext hq).cell0 rfl) (by first | decide | exact Nat.le_of_ble_eq_true rfl) ?_   -- t156 := load 9 t155 [if 12=true]
              refine QL.gval rfl rfl (fun wq hq => Y.geq_less rfl rfl (by rw [bs_toList, bs_toList]; exact hless (by omega))) (by first | decide | exact Nat.le_of_ble_eq_true rfl) ?_   -- t157 := binOp geq 9 t152 t156 9 [if 12=true]
              refine QL.gval rfl rfl (fun wq hq => Y.pick rfl rfl) (by first | decide | exact Nat.le_of_ble_eq_true rfl) ?_   -- t158 := pick t147 t157 c(false) [if 9=false]
              refine QL.val (fun wq hq => Y.pick rfl rfl) (by first | decide | exact Nat.le_of_ble_eq_true rfl) ?_   -- t159 := pick t144 c(true) t158
              refine QL.nil fun wq hq => ⟨⟨_, rfl, ?_⟩, hq, (by repeat (first | exact Fr.le.refl | refine Fr.le.push rfl ?_))⟩
              first | (simp only [*, Int.natCast_inj, Bool.not_eq_true', decide_eq_false_iff_not, decide_eq_true_eq, not_true_eq_false, not_false_eq_true, true_and, false_and, and_true, and_false, false_or, or_false, true_or, or_true, iff_true, true_iff, iff_false, false_iff]; done) | (simp_all; done) | (refine congrArg Value.bool (Bool.eq_iff_iff.2 ?_); simp_all; done) | (simp_all; omega)
            · -- t147 = F
              refine QL.goff rfl rfl (by first | decide | exact Nat.le_of_ble_eq_true rfl) ?_   -- t148 := load 38 t10 [if 12=true]
              refine QL.goff rfl rfl (by first | decide | exact Nat.le_of_ble_eq_true rfl) ?_   -- t149 := move t16 [if 12=true]
              refine QL.goff rfl rfl (by first | decide | exact Nat.le_of_ble_eq_true rfl) ?_   -- t150 := binOp sub 3 t149 c(1:i64) 3 [if 12=true]
              refine QL.goff rfl rfl (by first | decide | exact Nat.le_of_ble_eq_true rfl) ?_   -- t151 := indexAddr 38 t148 t150 [if 12=true]
              refine QL.goff rfl rfl (by first | decide | exact Nat.le_of_ble_eq_true rfl) ?_   -- t152 := load 9 t151 [if 12=true]
              refine QL.goff rfl rfl (by first | decide | exact Nat.le_of_ble_eq_true rfl) ?_   -- t153 := load 38 t10 [if 12=true]
              refine QL.goff rfl rfl (by first | decide | exact Nat.le_of_ble_eq_true rfl) ?_   -- t154 := move t16 [if 12=true]
              refine QL.goff rfl rfl (by first | decide | exact Nat.le_of_ble_eq_true rfl) ?_   -- t155 := indexAddr 38 t153 t154 [if 12=true]
              refine QL.goff rfl rfl (by first | decide | exact Nat.le_of_ble_eq_true rfl) ?_   -- t156 := load 9 t155 [if 12=true]
              refine QL.goff rfl rfl (by first | decide | exact Nat.le_of_ble_eq_true rfl) ?_   -- t157 := binOp geq 9 t152 t156 9 [if 12=true]
              refine QL.gval rfl rfl (fun wq hq => Y.pick rfl rfl) (by first | decide | exact Nat.le_of_ble_eq_true rfl) ?_   -- t158 := pick t147 t157 c(false) [if 9=false]
              refine QL.val (fun wq hq => Y.pick rfl rfl) (by first | decide | exact Nat.le_of_ble_eq_true rfl) ?_   -- t159 := pick t144 c(true) t158
              refine QL.nil fun wq hq => ⟨⟨_, rfl, ?_⟩, hq, (by repeat (first | exact Fr.le.refl | refine Fr.le.push rfl ?_))⟩
              first | (simp only [*, Int.natCast_inj, Bool.not_eq_true', decide_eq_false_iff_not, decide_eq_true_eq, not_true_eq_false, not_false_eq_true, true_and, false_and, and_true, and_false, false_or, or_false, true_or, or_true, iff_true, true_iff, iff_false, false_iff]; done) | (simp_all; done) | (refine congrArg Value.bool (Bool.eq_iff_iff.2 ?_); simp_all; done) | (simp_all; omega)
        intro w40 hx40; have hz40 := hx40.size; have hE := hE.thenExt hx40; have hK := hK.ext hx40; have hT := hT.ext hx40; have hT2 := hT2.ext hx40; have hZ := hZ.ext hx40; have hB10 := hB10.ext hx40; have hB11 := hB11.ext hx40
        first | refine CW.condD rfl (fun ht40 => ?_) (fun ht40 => ?_) | refine CW.condND rfl (fun ht40 => ?_) (fun ht40 => ?_) | refine CW.condN rfl (fun ht40 => ?_) (fun ht40 => ?_) | refine CW.cond rfl (fun ht40 => ?_) (fun ht40 => ?_)
        · -- then
          refine CW.seq fun K41 hK41 => ?_
          refine CW.region ?_   -- region 31
          refine WL.val (Y.assign rfl) (by first | decide | exact Nat.le_of_ble_eq_true rfl) ?_   -- t4 := assign c(false)
          refine WL.nil ?_
          refine hK41 _ _ ?_; try clear hK41 K41
          refine CW.ret ?_
          exact False.elim (by assumption)
        -- else
        refine CW.skip ?_
        refine hK38 _ _ ?_; try clear hK38 K38
        refine CW.region ?_   -- region 32
        refine WL.val (Y.add rfl rfl ⟨by omega, by omega⟩) (by first | decide | exact Nat.le_of_ble_eq_true rfl) ?_   -- t160 := binOp add 3 t132 c(1:i64) 3
        refine WL.val (Y.move rfl) (by first | decide | exact Nat.le_of_ble_eq_true rfl) ?_   -- t132 := move t160
        refine WL.nil ?_
        exact ⟨x + 1, by show m12 - (x + 1) < m12 - x; omega, (by repeat (first | exact Fr.le.nil | refine Fr.le.cons rfl ?_)), by show x + 1 ≤ m12; omega, hxx.thenExt hx40⟩
      -- else
      refine CW.exit ?_   -- exit 6
      refine hK33 _ _ _ ?_; try clear hK33 K33
      refine CN.seq fun K42 hK42 => ?_
      refine CN.of_CW ?_
      refine CW.region ?_   -- region 33
      refine WL.val (Y.assign rfl) (by first | decide | exact Nat.le_of_ble_eq_true rfl) ?_   -- t4 := assign c(true)
      refine WL.nil ?_
      refine hK42 _ _ _ ?_; try clear hK42 K42
      refine CN.ret ?_
      have hD1 := def_chg hD1 hZ (fun h => h)
      have hD2 := def_chg hD2 hZ (fun h => h)
      exact ⟨[w24.heap.size, w12.heap.size], rfl, by simp; omega, (fun D hD => by simp at hD; rcases hD with rfl | rfl; exact hD2; exact hD1), _, rfl, fun w_ hc => ⟨rfl, hE.step hc (fun k h => by simp at h; omega)⟩⟩
    · intro s_ e_ w41 hi_ hD_ hfin_ he_
      exact hi_.elim
  · intro s_ e_ w42 hi_ hD_ hfin_ he_
    exact hi_.elim
end Go.Proofs.YtkbmlnkoejlgmaaDoor
