/- Parts of a proof: what its last text leans on. No condition. -/
import Derived.Shelf.Small.Strs
import Derived.Shelf.Strings.Search1
import Derived.Test.YtjbeooimhoilmaaGreatDoorProg
import Derived.Test.YtjbeooimhoilmaaGreatDoorK03
set_option linter.unusedSimpArgs false
set_option linter.unusedVariables false
/- What is a Ref, an operation's root: commit.root, commit.ref, and the reference's Ref, walked; which digest comes first. No condition. -/
namespace Go.Proofs.YtjbeooimhoilmaaGreatDoor
open Go.RowKit Go.Fw Go.Pl
theorem root_any (r : RefD) (w : World) : Calls Tryz.prog 92 #[refV r] w (Ret fun v w' => v = .bool (rootB r) ∧ Ext w w') := by
 refine calls_of_CW 6 [2] [(0, refV r)] Tryz.func92 rfl rfl rfl (by simp) args1 ?_
 refine CW.sr fun K1 hK1 => ?_
 refine WL.box rfl rfl (by decide) fun g1 w1 hx1 hg1 hB1 => ?_
 have hM1 := hB1.mem
 refine WL.a rfl ?_
 refine WL.nil (hK1 _ _ ?_); try clear hK1 K1
 refine CW.sr fun K2 hK2 => ?_
 refine WL.v (Y.load Tryz.underlying68 rfl hM1 (sz_apiRef _) rfl) ?_
 refine WL.v (Y.build0 (build_apiRef _)) ?_
 refine WL.v (Y.eql_apiRef rfl rfl) ?_
 refine WL.a rfl ?_
 refine WL.nil (hK2 _ _ ?_); try clear hK2 K2
 refine CW.ret ⟨_, rfl, ?_⟩
 exact ⟨rfl, hx1⟩
theorem ref_any (r : RefD) (w : World) : Calls Tryz.prog 91 #[refV r] w (Ret fun v w' => v = .bool (refB r) ∧ Ext w w') := by
 refine calls_of_CW 26 [2] [(0, refV r)] Tryz.func91 rfl rfl rfl (by simp) args1 ?_
 refine CW.sr fun K1 hK1 => ?_
 refine WL.box rfl rfl (by decide) fun g1 w1 hx1 hg1 hB1 => ?_
 have hM1 := hB1.mem
 refine WL.a rfl ?_
 refine WL.nil (hK1 _ _ ?_); try clear hK1 K1
 refine CW.seq fun K2 hK2 => ?_
 refine CW.block ?_
 refine CW.sr fun K3 hK3 => ?_
 refine WL.v (Y.fieldAddr fo_apiRef0 rfl) ?_
 refine WL.v (Y.load1 Tryz.underlying4 rfl hM1.ref0 rfl) ?_
 refine WL.a rfl ?_
 refine WL.nil (hK3 _ _ ?_); try clear hK3 K3
 (first | refine CW.condD rfl ?_ ?_ | refine CW.condND rfl ?_ ?_ | refine CW.condN rfl ?_ ?_ | refine CW.cond rfl ?_ ?_) <;> intro ht4
 ·
  -- then
  refine CW.sr fun K5 hK5 => ?_
  refine WL.v (Y.fieldAddr fo_apiRef1 rfl) ?_
  refine WL.v (Y.load Tryz.underlying43 rfl hM1.ref1 (sz_apiDigest _) rfl) ?_
  refine WL.v (Y.build0 (build_apiDigest _)) ?_
  refine WL.v (Y.eql_apiDigest rfl rfl) ?_
  refine WL.m rfl ?_
  (first | refine WL.casesD (d := 10) rfl ?_ ?_ | refine WL.casesND (d := 10) rfl ?_ ?_ | refine WL.cases (d := 10) rfl ?_ ?_) <;> intro hg10
  ·
   -- t10 = T
   refine WL.g rfl rfl (Y.fieldAddr fo_apiRef2 rfl) ?_
   refine WL.g rfl rfl (Y.load1 Tryz.underlying3 rfl hM1.ref2 rfl) ?_
   refine WL.g rfl rfl (Y.gtr rfl rfl) ?_
   refine WL.v (Y.pick rfl rfl) ?_
   refine WL.a rfl ?_
   refine WL.nil (hK5 _ _ ?_); try clear hK5 K5
   refine CW.ret ⟨_, rfl, ?_⟩
   exact ⟨by first | (simp_all [refB, rootB, refKind]; done) | (simp_all [refB, rootB, refKind]; omega), hx1⟩
  ·
   -- t10 = F
   refine WL.o rfl rfl ?_
   refine WL.o rfl rfl ?_
   refine WL.o rfl rfl ?_
   refine WL.v (Y.pick rfl rfl) ?_
   refine WL.a rfl ?_
   refine WL.nil (hK5 _ _ ?_); try clear hK5 K5
   refine CW.ret ⟨_, rfl, ?_⟩
   exact ⟨by first | (simp_all [refB, rootB, refKind]; done) | (simp_all [refB, rootB, refKind]; omega), hx1⟩
 refine CW.sr fun K6 hK6 => ?_
 refine WL.v (Y.load Tryz.underlying68 rfl hM1 (sz_apiRef _) rfl) ?_
 refine WL.call Tryz.func92 rfl rfl rfl (root_any _ _) (by simp) ?_; rintro v w2 ⟨rfl, hx2⟩; have hM1 := hM1.ext hx2
 refine WL.a rfl ?_
 refine WL.nil (hK6 _ _ ?_); try clear hK6 K6
 (first | refine CW.condD rfl ?_ ?_ | refine CW.condND rfl ?_ ?_ | refine CW.condN rfl ?_ ?_ | refine CW.cond rfl ?_ ?_) <;> intro ht7
 ·
  -- then
  refine CW.sr fun K8 hK8 => ?_
  refine WL.a rfl ?_
  refine WL.nil (hK8 _ _ ?_); try clear hK8 K8
  refine CW.ret ⟨_, rfl, ?_⟩
  exact ⟨by first | (simp_all [refB, rootB, refKind]; done) | (simp_all [refB, rootB, refKind]; omega), (hx1.thenExt hx2)⟩
 refine CW.skip ?_
 refine hK2 _ _ ?_; try clear hK2 K2
 refine CW.sr fun K9 hK9 => ?_
 refine WL.v (Y.fieldAddr fo_apiRef2 rfl) ?_
 refine WL.v (Y.load1 Tryz.underlying3 rfl hM1.ref2 rfl) ?_
 refine WL.v (Y.gtr rfl rfl) ?_
 refine WL.m rfl ?_
 (first | refine WL.casesD (d := 21) rfl ?_ ?_ | refine WL.casesND (d := 21) rfl ?_ ?_ | refine WL.cases (d := 21) rfl ?_ ?_) <;> intro hg21
 ·
  -- t21 = T
  refine WL.g rfl rfl (Y.fieldAddr fo_apiRef2 rfl) ?_
  refine WL.g rfl rfl (Y.load1 Tryz.underlying3 rfl hM1.ref2 rfl) ?_
  refine WL.g rfl rfl (Y.leq rfl rfl) ?_
  refine WL.v (Y.pick rfl rfl) ?_
  refine WL.a rfl ?_
  refine WL.nil (hK9 _ _ ?_); try clear hK9 K9
  refine CW.ret ⟨_, rfl, ?_⟩
  exact ⟨by first | (simp_all [refB, rootB, refKind]; done) | (simp_all [refB, rootB, refKind]; omega), (hx1.thenExt hx2)⟩
 ·
  -- t21 = F
  refine WL.o rfl rfl ?_
  refine WL.o rfl rfl ?_
  refine WL.o rfl rfl ?_
  refine WL.v (Y.pick rfl rfl) ?_
  refine WL.a rfl ?_
  refine WL.nil (hK9 _ _ ?_); try clear hK9 K9
  refine CW.ret ⟨_, rfl, ?_⟩
  exact ⟨by first | (simp_all [refB, rootB, refKind]; done) | (simp_all [refB, rootB, refKind]; omega), (hx1.thenExt hx2)⟩
theorem rRef_any (r : RefD) (w : World) : Calls Tryz.prog 45 #[refV r] w (Ret fun v w' => v = .int .i64 (refKind r) ∧ Ext w w') := by
 refine calls_of_CW 31 [2] [(0, refV r)] Tryz.func45 rfl rfl rfl (by simp) args1 ?_
 refine CW.sr fun K1 hK1 => ?_
 refine WL.box rfl rfl (by decide) fun g1 w1 hx1 hg1 hB1 => ?_
 have hM1 := hB1.mem
 refine WL.a rfl ?_
 refine WL.nil (hK1 _ _ ?_); try clear hK1 K1
 refine CW.seq fun K2 hK2 => ?_
 refine CW.sr fun K3 hK3 => ?_
 refine WL.v (Y.fieldAddr fo_apiRef0 rfl) ?_
 refine WL.v (Y.load1 Tryz.underlying4 rfl hM1.ref0 rfl) ?_
 refine WL.nil (hK3 _ _ ?_); try clear hK3 K3
 (first | refine CW.condD rfl ?_ ?_ | refine CW.condND rfl ?_ ?_ | refine CW.condN rfl ?_ ?_ | refine CW.cond rfl ?_ ?_) <;> intro ht4
 ·
  -- then
  refine CW.seq fun K5 hK5 => ?_
  refine CW.seq_test 13 (r.c ≠ Dig.zero ∨ r.n < 1) ?_ ?_
  ·
   refine CW.region ?_
   refine WL.v (Y.fieldAddr fo_apiRef1 rfl) ?_
   refine WL.v (Y.load Tryz.underlying43 rfl hM1.ref1 (sz_apiDigest _) rfl) ?_
   refine WL.v (Y.build0 (build_apiDigest _)) ?_
   refine WL.v (Y.neq_apiDigest rfl rfl) ?_
   refine WL.m rfl ?_
   (first | refine WL.casesD (d := 9) rfl ?_ ?_ | refine WL.casesND (d := 9) rfl ?_ ?_ | refine WL.cases (d := 9) rfl ?_ ?_) <;> intro hg9
   ·
    -- t9 = T
    refine WL.o rfl rfl ?_
    refine WL.o rfl rfl ?_
    refine WL.o rfl rfl ?_
    refine WL.v (Y.pick rfl rfl) ?_
    refine WL.nil ⟨⟨_, rfl, ?_⟩, rfl, Fr.okp⟩
    exact tst_ok
   ·
    -- t9 = F
    refine WL.g rfl rfl (Y.fieldAddr fo_apiRef2 rfl) ?_
    refine WL.g rfl rfl (Y.load1 Tryz.underlying3 rfl hM1.ref2 rfl) ?_
    refine WL.g rfl rfl (Y.lss rfl rfl) ?_
    refine WL.v (Y.pick rfl rfl) ?_
    refine WL.nil ⟨⟨_, rfl, ?_⟩, rfl, Fr.okp⟩
    exact tst_ok
  (first | refine CW.condD rfl ?_ ?_ | refine CW.condND rfl ?_ ?_ | refine CW.condN rfl ?_ ?_ | refine CW.cond rfl ?_ ?_) <;> intro ht6
  ·
   -- then
   refine CW.sr fun K7 hK7 => ?_
   refine WL.a rfl ?_
   refine WL.nil (hK7 _ _ ?_); try clear hK7 K7
   refine CW.ret ⟨_, rfl, ?_⟩
   exact ⟨by simp only [refKind]; (repeat' split) <;> first | rfl | (simp_all; done) | (simp_all; omega), hx1⟩
  refine CW.skip ?_
  refine hK5 _ _ ?_; try clear hK5 K5
  refine CW.sr fun K8 hK8 => ?_
  refine WL.a rfl ?_
  refine WL.nil (hK8 _ _ ?_); try clear hK8 K8
  refine CW.ret ⟨_, rfl, ?_⟩
  exact ⟨by simp only [refKind]; (repeat' split) <;> first | rfl | (simp_all; done) | (simp_all; omega), hx1⟩
 refine CW.skip ?_
 refine hK2 _ _ ?_; try clear hK2 K2
 refine CW.seq fun K9 hK9 => ?_
 refine CW.seq_test 21 (1 ≤ r.n ∧ r.n ≤ 2000) ?_ ?_
 ·
  refine CW.region ?_
  refine WL.v (Y.fieldAddr fo_apiRef2 rfl) ?_
  refine WL.v (Y.load1 Tryz.underlying3 rfl hM1.ref2 rfl) ?_
  refine WL.v (Y.geq rfl rfl) ?_
  refine WL.m rfl ?_
  (first | refine WL.casesD (d := 17) rfl ?_ ?_ | refine WL.casesND (d := 17) rfl ?_ ?_ | refine WL.cases (d := 17) rfl ?_ ?_) <;> intro hg17
  ·
   -- t17 = T
   refine WL.g rfl rfl (Y.fieldAddr fo_apiRef2 rfl) ?_
   refine WL.g rfl rfl (Y.load1 Tryz.underlying3 rfl hM1.ref2 rfl) ?_
   refine WL.g rfl rfl (Y.leq rfl rfl) ?_
   refine WL.v (Y.pick rfl rfl) ?_
   refine WL.nil ⟨⟨_, rfl, ?_⟩, rfl, Fr.okp⟩
   exact tst_ok
  ·
   -- t17 = F
   refine WL.o rfl rfl ?_
   refine WL.o rfl rfl ?_
   refine WL.o rfl rfl ?_
   refine WL.v (Y.pick rfl rfl) ?_
   refine WL.nil ⟨⟨_, rfl, ?_⟩, rfl, Fr.okp⟩
   exact tst_ok
 (first | refine CW.condD rfl ?_ ?_ | refine CW.condND rfl ?_ ?_ | refine CW.condN rfl ?_ ?_ | refine CW.cond rfl ?_ ?_) <;> intro ht10
 ·
  -- then
  refine CW.sr fun K11 hK11 => ?_
  refine WL.a rfl ?_
  refine WL.nil (hK11 _ _ ?_); try clear hK11 K11
  refine CW.ret ⟨_, rfl, ?_⟩
  exact ⟨by simp only [refKind]; (repeat' split) <;> first | rfl | (simp_all; done) | (simp_all; omega), hx1⟩
 refine CW.skip ?_
 refine hK9 _ _ ?_; try clear hK9 K9
 refine CW.seq fun K12 hK12 => ?_
 refine CW.seq_test 30 (r.n = 0 ∧ r.c = Dig.zero) ?_ ?_
 ·
  refine CW.region ?_
  refine WL.v (Y.fieldAddr fo_apiRef2 rfl) ?_
  refine WL.v (Y.load1 Tryz.underlying3 rfl hM1.ref2 rfl) ?_
  refine WL.v (Y.eql rfl rfl) ?_
  refine WL.m rfl ?_
  (first | refine WL.casesD (d := 25) rfl ?_ ?_ | refine WL.casesND (d := 25) rfl ?_ ?_ | refine WL.cases (d := 25) rfl ?_ ?_) <;> intro hg25
  ·
   -- t25 = T
   refine WL.g rfl rfl (Y.fieldAddr fo_apiRef1 rfl) ?_
   refine WL.g rfl rfl (Y.load Tryz.underlying43 rfl hM1.ref1 (sz_apiDigest _) rfl) ?_
   refine WL.g rfl rfl (Y.build0 (build_apiDigest _)) ?_
   refine WL.g rfl rfl (Y.eql_apiDigest rfl rfl) ?_
   refine WL.v (Y.pick rfl rfl) ?_
   refine WL.nil ⟨⟨_, rfl, ?_⟩, rfl, Fr.okp⟩
   exact tst_ok
  ·
   -- t25 = F
   refine WL.o rfl rfl ?_
   refine WL.o rfl rfl ?_
   refine WL.o rfl rfl ?_
   refine WL.o rfl rfl ?_
   refine WL.v (Y.pick rfl rfl) ?_
   refine WL.nil ⟨⟨_, rfl, ?_⟩, rfl, Fr.okp⟩
   exact tst_ok
 (first | refine CW.condD rfl ?_ ?_ | refine CW.condND rfl ?_ ?_ | refine CW.condN rfl ?_ ?_ | refine CW.cond rfl ?_ ?_) <;> intro ht13
 ·
  -- then
  refine CW.sr fun K14 hK14 => ?_
  refine WL.a rfl ?_
  refine WL.nil (hK14 _ _ ?_); try clear hK14 K14
  refine CW.ret ⟨_, rfl, ?_⟩
  exact ⟨by simp only [refKind]; (repeat' split) <;> first | rfl | (simp_all; done) | (simp_all; omega), hx1⟩
 refine CW.skip ?_
 refine hK12 _ _ ?_; try clear hK12 K12
 refine CW.sr fun K15 hK15 => ?_
 refine WL.a rfl ?_
 refine WL.nil (hK15 _ _ ?_); try clear hK15 K15
 refine CW.ret ⟨_, rfl, ?_⟩
 exact ⟨by simp only [refKind]; (repeat' split) <;> first | rfl | (simp_all; done) | (simp_all; omega), hx1⟩
theorem less_any (a b : Dig) (w : World) : Calls Tryz.prog 76 #[digV a, digV b] w (Ret fun v w' => v = .bool (lessB a b) ∧ Ext w w') := by
 refine calls_of_CW 13 [4] [(0, digV a), (1, digV b)] Tryz.func76 rfl rfl rfl (by simp) args2 ?_
 refine CW.sr fun K1 hK1 => ?_
 refine WL.box rfl rfl (by decide) fun g2 w1 hx1 hg2 hB2 => ?_
 have hM2 := hB2.mem
 refine WL.box rfl rfl (by decide) fun g3 w2 hx2 hg3 hB3 => ?_
 have hM3 := hB3.mem; have hM2 := hM2.ext hx2
 refine WL.a rfl ?_
 refine WL.nil (hK1 _ _ ?_); try clear hK1 K1
 refine CW.seq fun K2 hK2 => ?_
 refine CW.sr fun K3 hK3 => ?_
 refine WL.v (Y.load Tryz.underlying43 rfl hM2 (sz_apiDigest _) rfl) ?_
 refine WL.v (Y.load Tryz.underlying43 rfl hM3 (sz_apiDigest _) rfl) ?_
 refine WL.v (Y.eql_apiDigest rfl rfl) ?_
 refine WL.nil (hK3 _ _ ?_); try clear hK3 K3
 (first | refine CW.condD rfl ?_ ?_ | refine CW.condND rfl ?_ ?_ | refine CW.condN rfl ?_ ?_ | refine CW.cond rfl ?_ ?_) <;> intro ht4
 ·
  -- then
  refine CW.sr fun K5 hK5 => ?_
  refine WL.a rfl ?_
  refine WL.nil (hK5 _ _ ?_); try clear hK5 K5
  refine CW.ret ⟨_, rfl, ?_⟩
  exact ⟨by simp_all [lessB, bytesLess_self], hx1.thenExt hx2⟩
 refine CW.skip ?_
 refine hK2 _ _ ?_; try clear hK2 K2
 refine CW.seq fun K6 hK6 => ?_
 refine CW.quiet (fun wq => Ext w2 wq) (by kernel_rfl) (by kernel_rfl) Chg.drew ?_
 refine QL.v (fun wq hq => Y.slice_arr Tryz.underlying43 rfl sz_uint8) ?_
 refine QL.v (fun wq hq => Y.bytes_string Tryz.underlying91 Tryz.underlying5 Tryz.underlying9 rfl (l := a.1) a.2 (fun _ => ⟨_, rfl, hM2.ext hq⟩) (fun h => by cases h)) ?_
 refine QL.v (fun wq hq => Y.slice_arr Tryz.underlying43 rfl sz_uint8) ?_
 refine QL.v (fun wq hq => Y.bytes_string Tryz.underlying91 Tryz.underlying5 Tryz.underlying9 rfl (l := b.1) b.2 (fun _ => ⟨_, rfl, hM3.ext hq⟩) (fun h => by cases h)) ?_
 refine QL.v (fun wq hq => Y.lss_string rfl rfl) ?_
 refine QL.a rfl ?_
 refine QL.nil fun w3 hx3 => ?_
 have hM2 := hM2.ext hx3
 have hM3 := hM3.ext hx3
 refine hK6 _ _ ?_; try clear hK6 K6
 refine CW.ret ⟨_, rfl, ?_⟩
 exact ⟨by simp [lessB, bs_toList], (hx1.thenExt hx2).thenExt hx3⟩
end Go.Proofs.YtjbeooimhoilmaaGreatDoor
/- strings.IndexByte's contract, laid by the shelf at this program, in plain words. No condition. -/
namespace Go.Proofs.YtjbeooimhoilmaaGreatDoor
open Go.Shelf
def lays137_ren : Go.Shelf.Ren := ⟨fun | 137 => 123 | 217 => 125 | 266 => 127 | n => n, fun | 9 => 9 | 5 => 5 | 3 => 3 | n => n, fun | n => n⟩
theorem lays137 : Go.Proofs.Lays.n137 Tryz.prog lays137_ren := {
 mixed := by kernel_rfl
 f137 := Tryz.func123.trans (congrArg some (by kernel_rfl))
 f217 := Tryz.func125.trans (congrArg some (by kernel_rfl))
 f266 := Tryz.func127.trans (congrArg some (by kernel_rfl))
 t3 := Tryz.underlying3
 a3 := Tryz.isAgg3
 z3 := Tryz.sizeOf3
 v3 := Tryz.zeroValue3
 t5 := Tryz.underlying5
 a5 := Tryz.isAgg5
 z5 := Tryz.sizeOf5
 v5 := Tryz.zeroValue5
 t9 := Tryz.underlying9
 a9 := Tryz.isAgg9
 z9 := Tryz.sizeOf9
 v9 := Tryz.zeroValue9 }
open Go.RowKit in
theorem strings_IndexByte (s : ByteArray) (c : Int) (w : World) :
  Calls Tryz.prog 123 #[.string s, .int .u8 c] w fun e w' => e = .returned (.int .i64 (Lib.indexByte s.data.toList c.toNat.toUInt8)) ∧ w' = w := Any.strings_IndexByte lays137 s c w
end Go.Proofs.YtjbeooimhoilmaaGreatDoor
/- Which texts are names: commit.Name and the reference's Name, walked; the reference's order of digests. No condition. -/
namespace Go.Proofs.YtjbeooimhoilmaaGreatDoor
open Go.RowKit Go.Fw Go.Pl
theorem rLess_any (a b : Dig) (w : World) : Calls Tryz.prog 64 #[digV a, digV b] w (Ret fun v w' => v = .bool (lessB a b) ∧ Ext w w') := by
 refine calls_of_CW 24 [4] [(0, digV a), (1, digV b)] Tryz.func64 rfl rfl rfl (by simp) args2 ?_
 refine CW.sr fun K1 hK1 => ?_
 refine WL.box rfl rfl (by decide) fun g2 w1 hx1 hg2 hB2 => ?_
 have hM2 := hB2.mem
 refine WL.box rfl rfl (by decide) fun g3 w2 hx2 hg3 hB3 => ?_
 have hM3 := hB3.mem; have hM2 := hM2.ext hx2
 refine WL.a rfl ?_
 refine WL.nil (hK1 _ _ ?_); try clear hK1 K1
 refine CW.seq fun K2 hK2 => ?_
 refine CW.sr fun K3 hK3 => ?_
 refine WL.a rfl ?_
 refine WL.nil (hK3 _ _ ?_); try clear hK3 K3
 refine CW.block ?_
 refine CW.loop (X := Nat) (fun x => [(2, .pointer (some ⟨g2, 0, none⟩)), (3, .pointer (some ⟨g3, 0, none⟩)), (5, .int .i64 (x : Int))]) (fun x w0 => x ≤ 32 ∧ a.1.take x = b.1.take x ∧ Ext w w0 ∧ Mem w0 ⟨g2, 0, none⟩ (digC a) ∧ Mem w0 ⟨g3, 0, none⟩ (digC b)) (fun x => 32 - x) 0 (Fr.le.cons rfl (Fr.le.cons rfl (Fr.le.cons rfl Fr.le.nil))) ⟨by omega, rfl, (hx1.thenExt hx2), hM2, hM3⟩ ?_
 intro x w3 hl3
 obtain ⟨hi, htk, hL3, hM2, hM3⟩ := hl3
 have ha := a.2
 have hb := b.2
 refine CW.seq fun K4 hK4 => ?_
 refine CW.sr fun K5 hK5 => ?_
 refine WL.m rfl ?_
 refine WL.v (Y.lss rfl rfl) ?_
 refine WL.nil (hK5 _ _ ?_); try clear hK5 K5
 (first | refine CW.condD rfl ?_ ?_ | refine CW.condND rfl ?_ ?_ | refine CW.condN rfl ?_ ?_ | refine CW.cond rfl ?_ ?_) <;> intro ht6
 ·
  -- then
  refine CW.skip ?_
  refine hK4 _ _ ?_; try clear hK4 K4
  refine CW.seq fun K7 hK7 => ?_
  refine CW.block ?_
  refine CW.seq fun K8 hK8 => ?_
  refine CW.quiet (fun wq => Ext w3 wq) (by kernel_rfl) (by kernel_rfl) Chg.drew ?_
  refine QL.m rfl ?_
  refine QL.v (fun wq hq => Y.indexAddrAN Tryz.underlying43 rfl rfl sz0_uint8 (by omega)) ?_
  refine QL.v (fun wq hq => Y.load1 Tryz.underlying5 rfl ((hM2.ext hq).digAt (i := x) (by omega)) rfl) ?_
  refine QL.m rfl ?_
  refine QL.v (fun wq hq => Y.indexAddrAN Tryz.underlying43 rfl rfl sz0_uint8 (by omega)) ?_
  refine QL.v (fun wq hq => Y.load1 Tryz.underlying5 rfl ((hM3.ext hq).digAt (i := x) (by omega)) rfl) ?_
  refine QL.v (fun wq hq => Y.neq rfl rfl) ?_
  refine QL.nil fun w4 hx4 => ?_
  have hM2 := hM2.ext hx4
  have hM3 := hM3.ext hx4
  refine hK8 _ _ ?_; try clear hK8 K8
  (first | refine CW.condD rfl ?_ ?_ | refine CW.condND rfl ?_ ?_ | refine CW.condN rfl ?_ ?_ | refine CW.cond rfl ?_ ?_) <;> intro ht9
  ·
   -- then
   refine CW.seq fun K10 hK10 => ?_
   refine CW.quiet (fun wq => Ext w4 wq) (by kernel_rfl) (by kernel_rfl) Chg.drew ?_
   refine QL.m rfl ?_
   refine QL.v (fun wq hq => Y.indexAddrAN Tryz.underlying43 rfl rfl sz0_uint8 (by omega)) ?_
   refine QL.v (fun wq hq => Y.load1 Tryz.underlying5 rfl ((hM2.ext hq).digAt (i := x) (by omega)) rfl) ?_
   refine QL.m rfl ?_
   refine QL.v (fun wq hq => Y.indexAddrAN Tryz.underlying43 rfl rfl sz0_uint8 (by omega)) ?_
   refine QL.v (fun wq hq => Y.load1 Tryz.underlying5 rfl ((hM3.ext hq).digAt (i := x) (by omega)) rfl) ?_
   refine QL.v (fun wq hq => Y.lss rfl rfl) ?_
   refine QL.a rfl ?_
   refine QL.nil fun w5 hx5 => ?_
   have hM2 := hM2.ext hx5
   have hM3 := hM3.ext hx5
   refine hK10 _ _ ?_; try clear hK10 K10
   refine CW.ret ⟨_, rfl, ?_⟩
   refine ⟨?_, ((hL3.thenExt hx4).thenExt hx5)⟩
   have := bytesLess_at (i := x) htk (List.getElem?_eq_getElem (by omega)) (List.getElem?_eq_getElem (by omega)) (fun e => ht9 (by rw [e]))
   rw [lessB, this]
   congr 1
   simp [UInt8.lt_iff_toNat_lt]
  refine CW.skip ?_
  refine hK7 _ _ ?_; try clear hK7 K7
  refine CW.region ?_
  refine WL.m rfl ?_
  refine WL.v (Y.add rfl rfl ⟨by omega, by omega⟩) ?_
  refine WL.a rfl ?_
  refine WL.nil ?_
  refine ⟨x + 1, by omega, (Fr.le.cons rfl (Fr.le.cons rfl (Fr.le.cons rfl Fr.le.nil))), by omega, ?_, (hL3.thenExt hx4), hM2, hM3⟩
  rw [take_succ (List.getElem?_eq_getElem (by omega)), take_succ (List.getElem?_eq_getElem (by omega)), htk]
  congr 2
  exact UInt8.toNat_inj.1 (by omega)
 refine CW.exit ?_
 refine hK2 _ _ ?_; try clear hK2 K2
 refine CW.sr fun K11 hK11 => ?_
 refine WL.a rfl ?_
 refine WL.nil (hK11 _ _ ?_); try clear hK11 K11
 refine CW.ret ⟨_, rfl, ?_⟩
 refine ⟨?_, hL3⟩
 have : a = b := by
  apply Subtype.ext
  rw [← List.take_of_length_le (l := a.1) (i := x) (by omega), ← List.take_of_length_le (l := b.1) (i := x) (by omega), htk]
 simp [this, lessB, bytesLess_self]
theorem name_any (s : ByteArray) (w : World) (hs : s.size ≤ maxLen) : Calls Tryz.prog 117 #[.string s] w (Ret fun v w' => v = .bool (nameB s.toList) ∧ Ext w w') := by
 unfold maxLen at hs
 have hsl := toList_length s
 refine calls_of_CW 23 [2] [(0, .string s)] Tryz.func117 rfl rfl rfl (by simp) args1 ?_
 refine CW.sr fun K1 hK1 => ?_
 refine WL.a rfl ?_
 refine WL.nil (hK1 _ _ ?_); try clear hK1 K1
 refine CW.seq fun K2 hK2 => ?_
 refine CW.sr fun K3 hK3 => ?_
 refine WL.m rfl ?_
 refine WL.v (Y.len_string Tryz.underlying9 rfl) ?_
 refine WL.m rfl ?_
 refine WL.nil (hK3 _ _ ?_); try clear hK3 K3
 refine CW.block ?_
 refine CW.loop (X := Nat) (fun x => [(0, .string s), (5, .int .i64 (s.size : Int)), (6, .int .i64 (x : Int))]) (fun x w0 => x ≤ s.size ∧ (s.toList.take x).all letter = true ∧ Ext w w0) (fun x => s.size - x) 0 (Fr.le.cons rfl (Fr.le.cons rfl (Fr.le.cons rfl Fr.le.nil))) ⟨by omega, by simp, Chg.refl⟩ ?_
 intro x w1 hl1
 obtain ⟨hi, hall, hL1⟩ := hl1
 refine CW.sr fun K4 hK4 => ?_
 refine WL.v (Y.lss rfl rfl) ?_
 refine WL.nil (hK4 _ _ ?_); try clear hK4 K4
 refine CW.seq fun K5 hK5 => ?_
 (first | refine CW.condD rfl ?_ ?_ | refine CW.condND rfl ?_ ?_ | refine CW.condN rfl ?_ ?_ | refine CW.cond rfl ?_ ?_) <;> intro ht6
 ·
  -- then
  refine CW.skip ?_
  refine hK5 _ _ ?_; try clear hK5 K5
  refine CW.seq fun K7 hK7 => ?_
  refine CW.block ?_
  refine CW.sr fun K8 hK8 => ?_
  refine WL.m rfl ?_
  refine WL.a rfl ?_
  refine WL.nil (hK8 _ _ ?_); try clear hK8 K8
  refine CW.sr fun K9 hK9 => ?_
  refine WL.m rfl ?_
  refine WL.m rfl ?_
  refine WL.v (Y.index_string Tryz.underlying9 rfl rfl (by omega)) ?_
  refine WL.call Tryz.func123 rfl rfl rfl (ret_of (strings_IndexByte _ _ _)) (by simp) ?_; rintro v w2 ⟨rfl, hx2⟩
  refine WL.v (Y.lss rfl rfl) ?_
  refine WL.nil (hK9 _ _ ?_); try clear hK9 K9
  (first | refine CW.condD rfl ?_ ?_ | refine CW.condND rfl ?_ ?_ | refine CW.condN rfl ?_ ?_ | refine CW.cond rfl ?_ ?_) <;> intro ht10
  ·
   -- then
   refine CW.sr fun K11 hK11 => ?_
   refine WL.a rfl ?_
   refine WL.nil (hK11 _ _ ?_); try clear hK11 K11
   refine CW.ret ⟨_, rfl, ?_⟩
   refine ⟨?_, (hL1.thenExt hx2)⟩
   rw [nameB_no (get_toList (i := x) (by omega)) ((letter_index _).1 (by have h := ht10; simp at h; exact h))]
  refine CW.skip ?_
  refine hK7 _ _ ?_; try clear hK7 K7
  refine CW.region ?_
  refine WL.v (Y.add rfl rfl ⟨by omega, by omega⟩) ?_
  refine WL.m rfl ?_
  refine WL.nil ?_
  refine ⟨x + 1, by omega, (Fr.le.cons rfl (Fr.le.cons rfl (Fr.le.cons rfl Fr.le.nil))), by omega, ?_, (hL1.thenExt hx2)⟩
  refine all_take_succ hall (get_toList (by omega)) ?_
  have h := (not_congr (letter_index s[x])).1 (by have h := ht10; simp at h; exact Int.not_lt.2 h)
  simpa using h
 refine CW.exit ?_
 refine hK2 _ _ ?_; try clear hK2 K2
 refine CW.sr fun K12 hK12 => ?_
 refine WL.m rfl ?_
 refine WL.v (Y.len_string Tryz.underlying9 rfl) ?_
 refine WL.v (Y.geq rfl rfl) ?_
 refine WL.m rfl ?_
 (first | refine WL.casesD (d := 18) rfl ?_ ?_ | refine WL.casesND (d := 18) rfl ?_ ?_ | refine WL.cases (d := 18) rfl ?_ ?_) <;> intro hg18
 ·
  -- t18 = T
  refine WL.g rfl rfl (Y.move rfl) ?_
  refine WL.g rfl rfl (Y.len_string Tryz.underlying9 rfl) ?_
  refine WL.g rfl rfl (Y.leq rfl rfl) ?_
  refine WL.v (Y.pick rfl rfl) ?_
  refine WL.a rfl ?_
  refine WL.nil (hK12 _ _ ?_); try clear hK12 K12
  refine CW.ret ⟨_, rfl, ?_⟩
  exact ⟨by rw [nameB_end hall (by omega), hsl]; congr 1; rw [Bool.eq_iff_iff]; simp; omega, hL1⟩
 ·
  -- t18 = F
  refine WL.o rfl rfl ?_
  refine WL.o rfl rfl ?_
  refine WL.o rfl rfl ?_
  refine WL.v (Y.pick rfl rfl) ?_
  refine WL.a rfl ?_
  refine WL.nil (hK12 _ _ ?_); try clear hK12 K12
  refine CW.ret ⟨_, rfl, ?_⟩
  exact ⟨by rw [nameB_end hall (by omega), hsl]; congr 1; rw [Bool.eq_iff_iff]; simp; omega, hL1⟩
end Go.Proofs.YtjbeooimhoilmaaGreatDoor
