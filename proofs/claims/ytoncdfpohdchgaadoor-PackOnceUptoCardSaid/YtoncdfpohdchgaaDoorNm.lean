/- Which texts are names: commit.Name and the reference's Name, walked; the reference's order of digests. No condition. -/
import Derived.Test.YtoncdfpohdchgaaDoorRf
import Derived.Test.YtoncdfpohdchgaaDoorIb
set_option linter.unusedSimpArgs false
set_option linter.unusedVariables false
namespace Go.Proofs.YtoncdfpohdchgaaDoor
open Go.RowKit Go.Fw Go.Pl

theorem rLess_any (a b : Dig) (w : World) : Calls Tryd.prog 34 #[digV a, digV b] w (Ret fun v w' => v = .bool (lessB a b) ∧ Ext w w') := by
  refine calls_of_CW 24 [4] [(0, digV a), (1, digV b)] Tryd.func34 rfl rfl rfl (by simp) args2 ?_
  refine CW.seq fun K1 hK1 => ?_
  refine CW.region ?_   -- region 0
  refine WL.box rfl rfl (by decide) fun g2 w1 hx1 hg2 hB2 => ?_   -- t2 := box 31 t0
  have hM2 := hB2.mem
  refine WL.box rfl rfl (by decide) fun g3 w2 hx2 hg3 hB3 => ?_   -- t3 := box 31 t1
  have hM3 := hB3.mem; have hM2 := hM2.ext hx2
  refine WL.val (Y.assign rfl) (by decide) ?_   -- t4 := assign c(false)
  refine WL.nil ?_
  refine hK1 _ _ ?_; try clear hK1 K1
  refine CW.seq fun K2 hK2 => ?_
  refine CW.seq fun K3 hK3 => ?_
  refine CW.region ?_   -- region 1
  refine WL.val (Y.assign rfl) (by decide) ?_   -- t5 := assign c(0:i64)
  refine WL.nil ?_
  refine hK3 _ _ ?_; try clear hK3 K3
  refine CW.block ?_   -- block 0
  refine CW.loop (X := Nat) (fun x => [(2, .pointer (some ⟨g2, 0, none⟩)), (3, .pointer (some ⟨g3, 0, none⟩)), (5, .int .i64 (x : Int))]) (fun x w0 => x ≤ 32 ∧ a.1.take x = b.1.take x ∧ Ext w w0 ∧ Mem w0 ⟨g2, 0, none⟩ (digC a) ∧ Mem w0 ⟨g3, 0, none⟩ (digC b)) (fun x => 32 - x) 0 (Fr.le.cons rfl (Fr.le.cons rfl (Fr.le.cons rfl Fr.le.nil))) ⟨by omega, rfl, (hx1.thenExt hx2), hM2, hM3⟩ ?_
  intro x w3 hl3
  obtain ⟨hi, htk, hL3, hM2, hM3⟩ := hl3
  have ha := a.2
  have hb := b.2
  refine CW.seq fun K4 hK4 => ?_
  refine CW.seq fun K5 hK5 => ?_
  refine CW.region ?_   -- region 2
  refine WL.val (Y.move rfl) (by decide) ?_   -- t6 := move t5
  refine WL.val (Y.lss rfl rfl) (by decide) ?_   -- t7 := binOp lss 3 t6 c(32:i64) 3
  refine WL.nil ?_
  refine hK5 _ _ ?_; try clear hK5 K5
  first | refine CW.condD rfl (fun ht6 => ?_) (fun ht6 => ?_) | refine CW.condND rfl (fun ht6 => ?_) (fun ht6 => ?_) | refine CW.condN rfl (fun ht6 => ?_) (fun ht6 => ?_) | refine CW.cond rfl (fun ht6 => ?_) (fun ht6 => ?_)
  · -- then
    refine CW.skip ?_
    refine hK4 _ _ ?_; try clear hK4 K4
    refine CW.seq fun K7 hK7 => ?_
    refine CW.block ?_   -- block 1
    refine CW.seq fun K8 hK8 => ?_
    refine CW.quiet (fun wq => Ext w3 wq) (by kernel_rfl) (by kernel_rfl) Chg.drew ?_
    refine QL.val (fun wq hq => Y.move rfl) (by decide) ?_   -- t10 := move t5
    refine QL.val (fun wq hq => Y.indexAddrAN Tryd.underlying31 rfl rfl sz0_uint8 (by omega)) (by decide) ?_   -- t11 := indexAddr 31 t2 t10
    refine QL.val (fun wq hq => Y.load1 Tryd.underlying5 rfl ((hM2.ext hq).digAt (i := x) (by omega)) rfl) (by decide) ?_   -- t12 := load 5 t11
    refine QL.val (fun wq hq => Y.move rfl) (by decide) ?_   -- t13 := move t5
    refine QL.val (fun wq hq => Y.indexAddrAN Tryd.underlying31 rfl rfl sz0_uint8 (by omega)) (by decide) ?_   -- t14 := indexAddr 31 t3 t13
    refine QL.val (fun wq hq => Y.load1 Tryd.underlying5 rfl ((hM3.ext hq).digAt (i := x) (by omega)) rfl) (by decide) ?_   -- t15 := load 5 t14
    refine QL.val (fun wq hq => Y.neq rfl rfl) (by decide) ?_   -- t16 := binOp neq 5 t12 t15 5
    refine QL.nil fun w4 hx4 => ?_
    have hM2 := hM2.ext hx4
    have hM3 := hM3.ext hx4
    refine hK8 _ _ ?_; try clear hK8 K8
    first | refine CW.condD rfl (fun ht9 => ?_) (fun ht9 => ?_) | refine CW.condND rfl (fun ht9 => ?_) (fun ht9 => ?_) | refine CW.condN rfl (fun ht9 => ?_) (fun ht9 => ?_) | refine CW.cond rfl (fun ht9 => ?_) (fun ht9 => ?_)
    · -- then
      refine CW.seq fun K10 hK10 => ?_
      refine CW.quiet (fun wq => Ext w4 wq) (by kernel_rfl) (by kernel_rfl) Chg.drew ?_
      refine QL.val (fun wq hq => Y.move rfl) (by decide) ?_   -- t17 := move t5
      refine QL.val (fun wq hq => Y.indexAddrAN Tryd.underlying31 rfl rfl sz0_uint8 (by omega)) (by decide) ?_   -- t18 := indexAddr 31 t2 t17
      refine QL.val (fun wq hq => Y.load1 Tryd.underlying5 rfl ((hM2.ext hq).digAt (i := x) (by omega)) rfl) (by decide) ?_   -- t19 := load 5 t18
      refine QL.val (fun wq hq => Y.move rfl) (by decide) ?_   -- t20 := move t5
      refine QL.val (fun wq hq => Y.indexAddrAN Tryd.underlying31 rfl rfl sz0_uint8 (by omega)) (by decide) ?_   -- t21 := indexAddr 31 t3 t20
      refine QL.val (fun wq hq => Y.load1 Tryd.underlying5 rfl ((hM3.ext hq).digAt (i := x) (by omega)) rfl) (by decide) ?_   -- t22 := load 5 t21
      refine QL.val (fun wq hq => Y.lss rfl rfl) (by decide) ?_   -- t23 := binOp lss 5 t19 t22 5
      refine QL.val (fun wq hq => Y.assign rfl) (by decide) ?_   -- t4 := assign t23
      refine QL.nil fun w5 hx5 => ?_
      have hM2 := hM2.ext hx5
      have hM3 := hM3.ext hx5
      refine hK10 _ _ ?_; try clear hK10 K10
      refine CW.ret ⟨_, rfl, ?_⟩
      refine ⟨?_, ((hL3.thenExt hx4).thenExt hx5)⟩
      have := bytesLess_at (i := x) htk (List.getElem?_eq_getElem (by omega)) (List.getElem?_eq_getElem (by omega)) (fun e => ht9 (by rw [e]))
      rw [lessB, this]
      congr 1
      simp [UInt8.lt_iff_toNat_lt]
    -- else
    refine CW.skip ?_
    refine hK7 _ _ ?_; try clear hK7 K7
    refine CW.region ?_   -- region 3
    refine WL.val (Y.move rfl) (by decide) ?_   -- t8 := move t5
    refine WL.val (Y.add rfl rfl ⟨by omega, by omega⟩) (by decide) ?_   -- t9 := binOp add 3 t8 c(1:i64) 3
    refine WL.val (Y.assign rfl) (by decide) ?_   -- t5 := assign t9
    refine WL.nil ?_
    refine ⟨x + 1, by omega, (Fr.le.cons rfl (Fr.le.cons rfl (Fr.le.cons rfl Fr.le.nil))), by omega, ?_, (hL3.thenExt hx4), hM2, hM3⟩
    rw [take_succ (List.getElem?_eq_getElem (by omega)), take_succ (List.getElem?_eq_getElem (by omega)), htk]
    congr 2
    exact UInt8.toNat_inj.1 (by omega)
  -- else
  refine CW.exit ?_   -- exit 0
  refine hK2 _ _ ?_; try clear hK2 K2
  refine CW.seq fun K11 hK11 => ?_
  refine CW.region ?_   -- region 6
  refine WL.val (Y.assign rfl) (by decide) ?_   -- t4 := assign c(false)
  refine WL.nil ?_
  refine hK11 _ _ ?_; try clear hK11 K11
  refine CW.ret ⟨_, rfl, ?_⟩
  refine ⟨?_, hL3⟩
  have : a = b := by
    apply Subtype.ext
    rw [← List.take_of_length_le (l := a.1) (i := x) (by omega), ← List.take_of_length_le (l := b.1) (i := x) (by omega), htk]
  simp [this, lessB, bytesLess_self]
theorem name_any (s : ByteArray) (w : World) (hs : s.size ≤ maxLen) : Calls Tryd.prog 75 #[.string s] w (Ret fun v w' => v = .bool (nameB s.toList) ∧ Ext w w') := by
  unfold maxLen at hs
  have hsl := toList_length s
  refine calls_of_CW 23 [2] [(0, .string s)] Tryd.func75 rfl rfl rfl (by simp) args1 ?_
  refine CW.seq fun K1 hK1 => ?_
  refine CW.region ?_   -- region 0
  refine WL.val (Y.assign rfl) (by decide) ?_   -- t2 := assign c(false)
  refine WL.nil ?_
  refine hK1 _ _ ?_; try clear hK1 K1
  refine CW.seq fun K2 hK2 => ?_
  refine CW.seq fun K3 hK3 => ?_
  refine CW.region ?_   -- region 1
  refine WL.val (Y.move rfl) (by decide) ?_   -- t4 := move t0
  refine WL.val (Y.len_string Tryd.underlying9 rfl) (by decide) ?_   -- t5 := call len(t4) : 9
  refine WL.val (Y.move rfl) (by decide) ?_   -- t6 := move c(0:i64)
  refine WL.nil ?_
  refine hK3 _ _ ?_; try clear hK3 K3
  refine CW.block ?_   -- block 0
  refine CW.loop (X := Nat) (fun x => [(0, .string s), (5, .int .i64 (s.size : Int)), (6, .int .i64 (x : Int))]) (fun x w0 => x ≤ s.size ∧ (s.toList.take x).all letter = true ∧ Ext w w0) (fun x => s.size - x) 0 (Fr.le.cons rfl (Fr.le.cons rfl (Fr.le.cons rfl Fr.le.nil))) ⟨by omega, by simp, Chg.refl⟩ ?_
  intro x w1 hl1
  obtain ⟨hi, hall, hL1⟩ := hl1
  refine CW.seq fun K4 hK4 => ?_
  refine CW.region ?_   -- region 2
  refine WL.val (Y.lss rfl rfl) (by decide) ?_   -- t7 := binOp lss 3 t6 t5 3
  refine WL.nil ?_
  refine hK4 _ _ ?_; try clear hK4 K4
  refine CW.seq fun K5 hK5 => ?_
  first | refine CW.condD rfl (fun ht6 => ?_) (fun ht6 => ?_) | refine CW.condND rfl (fun ht6 => ?_) (fun ht6 => ?_) | refine CW.condN rfl (fun ht6 => ?_) (fun ht6 => ?_) | refine CW.cond rfl (fun ht6 => ?_) (fun ht6 => ?_)
  · -- then
    refine CW.skip ?_
    refine hK5 _ _ ?_; try clear hK5 K5
    refine CW.seq fun K7 hK7 => ?_
    refine CW.block ?_   -- block 1
    refine CW.seq fun K8 hK8 => ?_
    refine CW.region ?_   -- region 3
    refine WL.val (Y.move rfl) (by decide) ?_   -- t8 := move t6
    refine WL.val (Y.assign rfl) (by decide) ?_   -- t3 := assign t8
    refine WL.nil ?_
    refine hK8 _ _ ?_; try clear hK8 K8
    refine CW.seq fun K9 hK9 => ?_
    refine CW.region ?_   -- region 4
    refine WL.val (Y.move rfl) (by decide) ?_   -- t9 := move t0
    refine WL.val (Y.move rfl) (by decide) ?_   -- t10 := move t3
    refine WL.val (Y.index_string Tryd.underlying9 rfl rfl (by omega)) (by decide) ?_   -- t11 := index 9 t9 t10
    refine WL.call Tryd.func87 rfl rfl rfl (ret_of (strings_IndexByte _ _ _)) (by simp) ?_; rintro v w2 ⟨rfl, hx2⟩   -- t12 := call F87(c(STR), t11) : 9,5
    refine WL.val (Y.lss rfl rfl) (by decide) ?_   -- t13 := binOp lss 3 t12 c(0:i64) 3
    refine WL.nil ?_
    refine hK9 _ _ ?_; try clear hK9 K9
    first | refine CW.condD rfl (fun ht10 => ?_) (fun ht10 => ?_) | refine CW.condND rfl (fun ht10 => ?_) (fun ht10 => ?_) | refine CW.condN rfl (fun ht10 => ?_) (fun ht10 => ?_) | refine CW.cond rfl (fun ht10 => ?_) (fun ht10 => ?_)
    · -- then
      refine CW.seq fun K11 hK11 => ?_
      refine CW.region ?_   -- region 5
      refine WL.val (Y.assign rfl) (by decide) ?_   -- t2 := assign c(false)
      refine WL.nil ?_
      refine hK11 _ _ ?_; try clear hK11 K11
      refine CW.ret ⟨_, rfl, ?_⟩
      refine ⟨?_, (hL1.thenExt hx2)⟩
      rw [nameB_no (get_toList (i := x) (by omega)) ((letter_index _).1 (by have h := ht10; simp at h; exact h))]
    -- else
    refine CW.skip ?_
    refine hK7 _ _ ?_; try clear hK7 K7
    refine CW.region ?_   -- region 6
    refine WL.val (Y.add rfl rfl ⟨by omega, by omega⟩) (by decide) ?_   -- t14 := binOp add 3 t6 c(1:i64) 3
    refine WL.val (Y.move rfl) (by decide) ?_   -- t6 := move t14
    refine WL.nil ?_
    refine ⟨x + 1, by omega, (Fr.le.cons rfl (Fr.le.cons rfl (Fr.le.cons rfl Fr.le.nil))), by omega, ?_, (hL1.thenExt hx2)⟩
    refine all_take_succ hall (get_toList (by omega)) ?_
    have h := (not_congr (letter_index s[x])).1 (by have h := ht10; simp at h; exact Int.not_lt.2 h)
    simpa using h
  -- else
  refine CW.exit ?_   -- exit 0
  refine hK2 _ _ ?_; try clear hK2 K2
  refine CW.seq fun K12 hK12 => ?_
  refine CW.region ?_   -- region 7
  refine WL.val (Y.move rfl) (by decide) ?_   -- t15 := move t0
  refine WL.val (Y.len_string Tryd.underlying9 rfl) (by decide) ?_   -- t16 := call len(t15) : 9
  refine WL.val (Y.geq rfl rfl) (by decide) ?_   -- t17 := binOp geq 3 t16 c(1:i64) 3
  refine WL.val (Y.move rfl) (by decide) ?_   -- t18 := move t17
  first | refine WL.casesD (d := 18) rfl (fun hg18 => ?_) (fun hg18 => ?_) | refine WL.casesND (d := 18) rfl (fun hg18 => ?_) (fun hg18 => ?_) | refine WL.cases (d := 18) rfl (fun hg18 => ?_) (fun hg18 => ?_)
  · -- t18 = T
    refine WL.gval rfl rfl (Y.move rfl) (by decide) ?_   -- t19 := move t0 [if 3=true]
    refine WL.gval rfl rfl (Y.len_string Tryd.underlying9 rfl) (by decide) ?_   -- t20 := call len(t19) : 9 [if 3=true]
    refine WL.gval rfl rfl (Y.leq rfl rfl) (by decide) ?_   -- t21 := binOp leq 3 t20 c(24:i64) 3 [if 3=true]
    refine WL.val (Y.pick rfl rfl) (by decide) ?_   -- t22 := pick t18 t21 c(false)
    refine WL.val (Y.assign rfl) (by decide) ?_   -- t2 := assign t22
    refine WL.nil ?_
    refine hK12 _ _ ?_; try clear hK12 K12
    refine CW.ret ⟨_, rfl, ?_⟩
    exact ⟨by rw [nameB_end hall (by omega), hsl]; congr 1; rw [Bool.eq_iff_iff]; simp; omega, hL1⟩
  · -- t18 = F
    refine WL.goff rfl rfl (by decide) ?_   -- t19 := move t0 [if 3=true]
    refine WL.goff rfl rfl (by decide) ?_   -- t20 := call len(t19) : 9 [if 3=true]
    refine WL.goff rfl rfl (by decide) ?_   -- t21 := binOp leq 3 t20 c(24:i64) 3 [if 3=true]
    refine WL.val (Y.pick rfl rfl) (by decide) ?_   -- t22 := pick t18 t21 c(false)
    refine WL.val (Y.assign rfl) (by decide) ?_   -- t2 := assign t22
    refine WL.nil ?_
    refine hK12 _ _ ?_; try clear hK12 K12
    refine CW.ret ⟨_, rfl, ?_⟩
    exact ⟨by rw [nameB_end hall (by omega), hsl]; congr 1; rw [Bool.eq_iff_iff]; simp; omega, hL1⟩
end Go.Proofs.YtoncdfpohdchgaaDoor
