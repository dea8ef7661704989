/- Parts of a proof: what its last text leans on. No condition. -/
import Derived.Great.BuildSlice
import Derived.Test.YtmehkigmnpjcjaaDoorK03
import Derived.Test.YtmehkigmnpjcjaaDoorK04
set_option linter.unusedSimpArgs false
set_option linter.unusedVariables false
/- What is wrong with a commit: commit.May and the reference's May, walked. No condition. -/
namespace Go.Proofs.YtmehkigmnpjcjaaDoor
open Go.RowKit Go.Fw Go.Pl
theorem may_any (cv : Value) (cm : ComD) (w : World) (hc : Com w cv cm) : Calls Tryd.prog 40 #[cv] w (Ret fun v w' => v = .int .i64 (mayI cm) ∧ Ext w w') := by
 obtain ⟨pv, ov, rfl, hp, ho, hau, hno⟩ := hc
 have hoS := ho
 obtain ⟨A, m, c, rfl, hm, hmc, hcm, hps⟩ := hp
 obtain ⟨B, k, d, rfl, hk, hkd, hdm, hos⟩ := ho
 unfold maxLen at hcm hdm
 refine calls_of_CW 64 [2] [(0, .agg (comC (.slice A m c) cm.author cm.note (.slice B k d)).toArray)] Tryd.func40 rfl rfl rfl (by simp) args1 ?_
 refine CW.sr fun K1 hK1 => ?_
 refine WL.box rfl rfl de_ fun g1 w1 hx1 hg1 hB1 => ?_
 have hM1 := hB1.mem
 refine WL.a rfl ?_
 refine WL.nil (hK1 _ _ ?_); try clear hK1
 refine CW.seq fun K2 hK2 => ?_
 refine CW.sr fun K3 hK3 => ?_
 refine WL.v (Y.fieldAddr fo_apiCommit0 rfl) ?_
 refine WL.v (Y.load1 Tryd.underlying25 rfl hM1.com0 rfl) ?_
 refine WL.v (Y.len_slice Tryd.underlying25 rfl) ?_
 refine WL.v (Y.gtr rfl rfl) ?_
 refine WL.nil (hK3 _ _ ?_); try clear hK3
 (first | refine cd_ rfl ?_ ?_ | refine ce_ rfl ?_ ?_ | refine cn_ rfl ?_ ?_ | refine cb_ rfl ?_ ?_) <;> intro ht4
 ·
  -- then
  refine CW.sr fun K5 hK5 => ?_
  refine WL.a rfl ?_
  refine WL.nil (hK5 _ _ ?_); try clear hK5
  refine CW.ret ⟨_, rfl, ?_⟩
  exact ⟨by rw [mayI, if_pos om_], hx1⟩
 refine CW.skip ?_
 refine hK2 _ _ ?_; try clear hK2
 refine CW.seq fun K6 hK6 => ?_
 refine CW.sr fun K7 hK7 => ?_
 refine WL.v (Y.fieldAddr fo_apiCommit0 rfl) ?_
 refine WL.v (Y.load1 Tryd.underlying25 rfl hM1.com0 rfl) ?_
 refine WL.v (Y.len_slice Tryd.underlying25 rfl) ?_
 refine WL.m rfl ?_
 refine WL.nil (hK7 _ _ ?_); try clear hK7
 refine CW.block ?_
 refine CW.loop (X := Nat) (fun x => [(1, .pointer (some ⟨g1, 0, none⟩)), (12, .int .i64 (m : Int)), (13, .int .i64 (x : Int))]) (fun x w0 => x ≤ m ∧ (∀ i a b, i + 1 < x → cm.parents[i]? = some a → cm.parents[i + 1]? = some b → lessB a b = true) ∧ Ext w w0 ∧ Mem w0 ⟨g1, 0, none⟩ (comC (.slice A m c) cm.author cm.note (.slice B k d))) (fun x => m - x) 0 (Fr.le.cons rfl (Fr.le.cons rfl (Fr.le.cons rfl Fr.le.nil))) ⟨by omega, fun i a b h => by omega, hx1, hM1⟩ ?_
 intro x w2 hl2
 obtain ⟨hi, hrs, hL2, hM1⟩ := hl2
 refine CW.sr fun K8 hK8 => ?_
 refine WL.v (Y.lss rfl rfl) ?_
 refine WL.nil (hK8 _ _ ?_); try clear hK8
 refine CW.seq fun K9 hK9 => ?_
 (first | refine cd_ rfl ?_ ?_ | refine ce_ rfl ?_ ?_ | refine cn_ rfl ?_ ?_ | refine cb_ rfl ?_ ?_) <;> intro ht10
 ·
  -- then
  refine CW.skip ?_
  refine hK9 _ _ ?_; try clear hK9
  refine CW.seq fun K11 hK11 => ?_
  refine CW.block ?_
  refine CW.sr fun K12 hK12 => ?_
  refine WL.m rfl ?_
  refine WL.a rfl ?_
  refine WL.nil (hK12 _ _ ?_); try clear hK12
  obtain ⟨b, hb⟩ : ∃ b, cm.parents[x]? = some b := ⟨_, List.getElem?_eq_getElem om_⟩
  obtain ⟨a, ha⟩ : ∃ a, cm.parents[((x : Int) - 1).toNat]? = some a := ⟨_, List.getElem?_eq_getElem om_⟩
  obtain ⟨ad, rfl, hmb⟩ := hps _ b hb
  obtain ⟨ad', e, hma⟩ := hps _ a ha
  injection e with e; subst e
  refine CW.seq_testE 32 (0 < x ∧ lessB a b = false) ?_ ?_
  ·
   refine CW.quiet (fun wq => Ext w2 wq) kr_ kr_ Chg.drew ?_
   refine QL.m rfl ?_
   refine QL.v (fun wq hq => Y.gtr rfl rfl) ?_
   refine QL.m rfl ?_
   (first | refine QL.casesD (d := 18) rfl ?_ ?_ | refine QL.casesND (d := 18) rfl ?_ ?_ | refine QL.cases (d := 18) rfl ?_ ?_) <;> intro hg18
   ·
    -- t18 = T
    refine QL.g rfl rfl (fun wq hq => Y.fieldAddr fo_apiCommit0 rfl) ?_
    refine QL.g rfl rfl (fun wq hq => Y.load1 Tryd.underlying25 rfl (hM1.ext hq).com0 rfl) ?_
    refine QL.g rfl rfl (fun wq hq => Y.move rfl) ?_
    refine QL.g rfl rfl (fun wq hq => Y.sub rfl rfl o2_) ?_
    refine QL.g rfl rfl (fun wq hq => Y.indexAddr Tryd.underlying25 rfl rfl sz0_apiDigest om_ om_) ?_
    refine QL.g rfl rfl (fun wq hq => Y.load Tryd.underlying36 rfl (hma.ext (hL2.thenExt hq)) (sz_apiDigest _) rfl) ?_
    refine QL.g rfl rfl (fun wq hq => Y.fieldAddr fo_apiCommit0 rfl) ?_
    refine QL.g rfl rfl (fun wq hq => Y.load1 Tryd.underlying25 rfl (hM1.ext hq).com0 rfl) ?_
    refine QL.g rfl rfl (fun wq hq => Y.move rfl) ?_
    refine QL.g rfl rfl (fun wq hq => Y.indexAddrN Tryd.underlying25 rfl rfl sz0_apiDigest om_) ?_
    refine QL.g rfl rfl (fun wq hq => Y.load Tryd.underlying36 rfl (hmb.ext (hL2.thenExt hq)) (sz_apiDigest _) rfl) ?_
    refine QL.gcall rfl rfl Tryd.func58 rfl rfl rfl (fun wq hq => ret_ext (less_any _ _ _) hq) de_ ?_
    refine QL.g rfl rfl (fun wq hq => Y.not rfl) ?_
    refine QL.v (fun wq hq => Y.pick rfl rfl) ?_
    refine QL.nil fun wq hq => ⟨⟨_, rfl, ?_⟩, hq, Fr.okp⟩
    exact tst_ok
   ·
    -- t18 = F
    refine QL.o rfl rfl ?_
    refine QL.o rfl rfl ?_
    refine QL.o rfl rfl ?_
    refine QL.o rfl rfl ?_
    refine QL.o rfl rfl ?_
    refine QL.o rfl rfl ?_
    refine QL.o rfl rfl ?_
    refine QL.o rfl rfl ?_
    refine QL.o rfl rfl ?_
    refine QL.o rfl rfl ?_
    refine QL.o rfl rfl ?_
    refine QL.o rfl rfl ?_
    refine QL.o rfl rfl ?_
    refine QL.v (fun wq hq => Y.pick rfl rfl) ?_
    refine QL.nil fun wq hq => ⟨⟨_, rfl, ?_⟩, hq, Fr.okp⟩
    exact tst_ok
  intro w3 hx3; have hM1 := hM1.ext hx3
  (first | refine cd_ rfl ?_ ?_ | refine ce_ rfl ?_ ?_ | refine cn_ rfl ?_ ?_ | refine cb_ rfl ?_ ?_) <;> intro ht13
  ·
   -- then
   refine CW.sr fun K14 hK14 => ?_
   refine WL.a rfl ?_
   refine WL.nil (hK14 _ _ ?_); try clear hK14
   refine CW.ret ⟨_, rfl, ?_⟩
   exact ⟨by
    rw [mayI, if_neg om_, if_pos (Bool.eq_false_iff.2 fun h => ?_)]
    have h0 : ((x : Int) - 1).toNat + 1 = x := by omega
    have := (rising_iff _).1 h _ a b ha (by rw [h0]; exact hb)
    simp_all, (hL2.thenExt hx3)⟩
  refine CW.skip ?_
  refine hK11 _ _ ?_; try clear hK11
  refine CW.region ?_
  refine WL.v (Y.add rfl rfl o2_) ?_
  refine WL.m rfl ?_
  refine WL.nil ?_
  refine ⟨x + 1, by omega, (Fr.le.cons rfl (Fr.le.cons rfl (Fr.le.cons rfl Fr.le.nil))), by omega, fun i p q h hp hq => ?_, (hL2.thenExt hx3), hM1⟩
  by_cases hix : i + 1 < x
  ·
   exact hrs i p q hix hp hq
  ·
   have h0 : i + 1 = x := by omega
   have h1 : ((x : Int) - 1).toNat = i := by omega
   rw [h1, hp] at ha; rw [← h0, hq] at hb
   injection ha with ha; injection hb with hb
   subst ha; subst hb
   cases hlb : lessB p q with
   | true => rfl
   | false => simp_all
 refine CW.exit ?_
 refine hK6 _ _ ?_; try clear hK6
 refine CW.seq fun K15 hK15 => ?_
 refine CW.block ?_
 refine CW.seq fun K16 hK16 => ?_
 have hrise : risingB cm.parents = true := (rising_iff _).2 fun i p q hp hq => hrs i p q (by have := (List.getElem?_eq_some_iff.1 hq).1; omega) hp hq
 refine CW.region ?_
 refine WL.v (Y.fieldAddr fo_apiCommit1 rfl) ?_
 refine WL.v (Y.load1 Tryd.underlying9 rfl hM1.com1 rfl) ?_
 refine WL.call Tryd.func15 rfl rfl rfl ((name_any _ _ hau)) (by simp) ?_; rintro v w4 ⟨rfl, hx4⟩; have hM1 := hM1.ext hx4
 refine WL.v (Y.not rfl) ?_
 refine WL.a rfl ?_
 refine WL.nil (hK16 _ _ ?_); try clear hK16
 (first | refine cd_ rfl ?_ ?_ | refine ce_ rfl ?_ ?_ | refine cn_ rfl ?_ ?_ | refine cb_ rfl ?_ ?_) <;> intro ht17
 ·
  -- then
  refine CW.sr fun K18 hK18 => ?_
  refine WL.a rfl ?_
  refine WL.nil (hK18 _ _ ?_); try clear hK18
  refine CW.ret ⟨_, rfl, ?_⟩
  exact ⟨by rw [mayI, if_neg om_, if_neg (by simp [hrise]), if_pos (by simp_all)], (hL2.thenExt hx4)⟩
 refine CW.sr fun K19 hK19 => ?_
 refine WL.v (Y.fieldAddr fo_apiCommit2 rfl) ?_
 refine WL.v (Y.load1 Tryd.underlying9 rfl hM1.com2 rfl) ?_
 refine WL.v (Y.len_string Tryd.underlying9 rfl) ?_
 refine WL.v (Y.gtr rfl rfl) ?_
 refine WL.a rfl ?_
 refine WL.nil (hK19 _ _ ?_); try clear hK19
 (first | refine cd_ rfl ?_ ?_ | refine ce_ rfl ?_ ?_ | refine cn_ rfl ?_ ?_ | refine cb_ rfl ?_ ?_) <;> intro ht20
 ·
  -- then
  refine CW.sr fun K21 hK21 => ?_
  refine WL.a rfl ?_
  refine WL.nil (hK21 _ _ ?_); try clear hK21
  refine CW.ret ⟨_, rfl, ?_⟩
  exact ⟨by rw [mayI, if_neg om_, if_neg (by simp [hrise]), if_neg (by simp_all), if_pos om_], (hL2.thenExt hx4)⟩
 refine CW.sr fun K22 hK22 => ?_
 refine WL.v (Y.fieldAddr fo_apiCommit3 rfl) ?_
 refine WL.v (Y.load1 Tryd.underlying27 rfl hM1.com3 rfl) ?_
 refine WL.v (Y.len_slice Tryd.underlying27 rfl) ?_
 refine WL.v (Y.gtr rfl rfl) ?_
 refine WL.a rfl ?_
 refine WL.nil (hK22 _ _ ?_); try clear hK22
 (first | refine cd_ rfl ?_ ?_ | refine ce_ rfl ?_ ?_ | refine cn_ rfl ?_ ?_ | refine cb_ rfl ?_ ?_) <;> intro ht23
 ·
  -- then
  refine CW.sr fun K24 hK24 => ?_
  refine WL.a rfl ?_
  refine WL.nil (hK24 _ _ ?_); try clear hK24
  refine CW.ret ⟨_, rfl, ?_⟩
  exact ⟨by rw [mayI, if_neg om_, if_neg (by simp [hrise]), if_neg (by simp_all), if_neg om_, if_pos om_], (hL2.thenExt hx4)⟩
 refine CW.skip ?_
 refine hK15 _ _ ?_; try clear hK15
 refine CW.seq fun K25 hK25 => ?_
 refine CW.seq fun K26 hK26 => ?_
 have hm5 : mayI cm = opsErr cm.ops := by rw [mayI, if_neg om_, if_neg (by simp [hrise]), if_neg (by simp_all), if_neg om_, if_neg om_]
 refine CW.region ?_
 refine WL.v (Y.fieldAddr fo_apiCommit3 rfl) ?_
 refine WL.v (Y.load1 Tryd.underlying27 rfl hM1.com3 rfl) ?_
 refine WL.v (Y.len_slice Tryd.underlying27 rfl) ?_
 refine WL.m rfl ?_
 refine WL.nil (hK26 _ _ ?_); try clear hK26
 refine CW.block ?_
 refine CW.loop (X := Nat) (fun x => [(1, .pointer (some ⟨g1, 0, none⟩)), (51, .int .i64 (k : Int)), (52, .int .i64 (x : Int))]) (fun x w0 => x ≤ k ∧ (∀ j : Nat, j < x → rightI cm.ops (j + 1) = 0) ∧ Ext w w0 ∧ Mem w0 ⟨g1, 0, none⟩ (comC (.slice A m c) cm.author cm.note (.slice B k d))) (fun x => k - x) 0 (Fr.le.cons rfl (Fr.le.cons rfl (Fr.le.cons rfl Fr.le.nil))) ⟨by omega, fun j h => by omega, (hL2.thenExt hx4), hM1⟩ ?_
 intro x w5 hl5
 obtain ⟨hi, hrs, hL5, hM1⟩ := hl5
 refine CW.sr fun K27 hK27 => ?_
 refine WL.v (Y.lss rfl rfl) ?_
 refine WL.nil (hK27 _ _ ?_); try clear hK27
 refine CW.seq fun K28 hK28 => ?_
 (first | refine cd_ rfl ?_ ?_ | refine ce_ rfl ?_ ?_ | refine cn_ rfl ?_ ?_ | refine cb_ rfl ?_ ?_) <;> intro ht29
 ·
  -- then
  refine CW.skip ?_
  refine hK28 _ _ ?_; try clear hK28
  refine CW.seq fun K30 hK30 => ?_
  refine CW.block ?_
  refine CW.sr fun K31 hK31 => ?_
  refine WL.m rfl ?_
  refine WL.a rfl ?_
  refine WL.nil (hK31 _ _ ?_); try clear hK31
  refine CW.sr fun K32 hK32 => ?_
  refine WL.v (Y.fieldAddr fo_apiCommit3 rfl) ?_
  refine WL.v (Y.load1 Tryd.underlying27 rfl hM1.com3 rfl) ?_
  refine WL.m rfl ?_
  refine WL.v (Y.add rfl rfl o2_) ?_
  refine WL.call Tryd.func57 rfl rfl rfl ((right_any _ _ _ _ (hoS.ext hL5) o2_)) (by simp) ?_; rintro v w6 ⟨rfl, hx6⟩; have hM1 := hM1.ext hx6
  refine WL.a rfl ?_
  refine WL.nil (hK32 _ _ ?_); try clear hK32
  refine CW.sr fun K33 hK33 => ?_
  refine WL.m rfl ?_
  refine WL.v (Y.neq rfl rfl) ?_
  refine WL.nil (hK33 _ _ ?_); try clear hK33
  (first | refine cd_ rfl ?_ ?_ | refine ce_ rfl ?_ ?_ | refine cn_ rfl ?_ ?_ | refine cb_ rfl ?_ ?_) <;> intro ht34
  ·
   -- then
   refine CW.sr fun K35 hK35 => ?_
   refine WL.m rfl ?_
   refine WL.a rfl ?_
   refine WL.nil (hK35 _ _ ?_); try clear hK35
   refine CW.ret ⟨_, rfl, ?_⟩
   exact ⟨by rw [hm5, opsErr_at hrs om_ (by assumption)], (hL5.thenExt hx6)⟩
  refine CW.skip ?_
  refine hK30 _ _ ?_; try clear hK30
  refine CW.region ?_
  refine WL.v (Y.add rfl rfl o2_) ?_
  refine WL.m rfl ?_
  refine WL.nil ?_
  refine ⟨x + 1, by omega, (Fr.le.cons rfl (Fr.le.cons rfl (Fr.le.cons rfl Fr.le.nil))), by omega, fun j h => ?_, (hL5.thenExt hx6), hM1⟩
  by_cases hj : j < x
  ·
   exact hrs j hj
  ·
   obtain rfl : j = x := by omega
   simpa using (by assumption : ¬ rightI cm.ops ((j : Int) + 1) ≠ 0)
 refine CW.exit ?_
 refine hK25 _ _ ?_; try clear hK25
 refine CW.sr fun K36 hK36 => ?_
 refine WL.a rfl ?_
 refine WL.nil (hK36 _ _ ?_); try clear hK36
 refine CW.ret ⟨_, rfl, ?_⟩
 exact ⟨by rw [hm5, opsErr_end (fun j h => hrs j om_)], hL5⟩
end Go.Proofs.YtmehkigmnpjcjaaDoor
/- A commit's bytes: wire.put, wire.Num, wire.Text, commit.num, commit.op, commit.Encode, walked. No condition. -/
namespace Go.Proofs.YtmehkigmnpjcjaaDoor
open Go.RowKit Go.Fw Go.Pl
theorem u8_or (n : Nat) : IntKind.u8.wrap ((BitVec.ofInt IntKind.u8.bits (IntKind.u8.wrap (n : Int)) ||| BitVec.ofInt IntKind.u8.bits 128).toNat : Int) = ((UInt8.ofNat (n % 128 + 128)).toNat : Int) := by
 rw [show IntKind.u8.wrap (n : Int) = (((n % 256 : Nat)) : Int) by simp [IntKind.wrap, IntKind.bits, IntKind.signed]]
 have h : ∀ m, m < 256 → IntKind.u8.wrap ((BitVec.ofInt IntKind.u8.bits ((m : Nat) : Int) ||| BitVec.ofInt IntKind.u8.bits 128).toNat : Int) = ((UInt8.ofNat (m % 128 + 128)).toNat : Int) := by decide +kernel
 rw [h (n % 256) om_, Nat.mod_mod_of_dvd _ de_]
theorem shr7 (n : Nat) : ((n : Int)).fdiv (2 ^ (min (7 : Int).toNat IntKind.i64.bits)) = ((n / 128 : Nat) : Int) := by
 show ((n : Int)).fdiv 128 = _
 rw [Int.fdiv_eq_ediv_of_nonneg _ de_]
 rfl
theorem or_1 : IntKind.i64.wrap ((BitVec.ofInt IntKind.i64.bits 0 ||| BitVec.ofInt IntKind.i64.bits 1).toNat : Int) = 1 := by decide
theorem or_2 (c : Prop) [Decidable c] : IntKind.i64.wrap ((BitVec.ofInt IntKind.i64.bits (if c then 1 else 0) ||| BitVec.ofInt IntKind.i64.bits 2).toNat : Int) = (if c then 1 else 0) + 2 := by by_cases h : c <;> simp only [h, if_true, if_false] <;> decide
theorem or_4 (c d : Prop) [Decidable c] [Decidable d] : IntKind.i64.wrap ((BitVec.ofInt IntKind.i64.bits ((if c then 1 else 0) + (if d then 2 else 0)) ||| BitVec.ofInt IntKind.i64.bits 4).toNat : Int) = (if c then 1 else 0) + (if d then 2 else 0) + 4 := by by_cases h : c <;> by_cases h' : d <;> simp only [h, h', if_true, if_false] <;> decide
theorem or_8 (c d : Prop) [Decidable c] [Decidable d] : IntKind.i64.wrap ((BitVec.ofInt IntKind.i64.bits ((if c then 1 else 0) + (if d then 2 else 0)) ||| BitVec.ofInt IntKind.i64.bits 8).toNat : Int) = (if c then 1 else 0) + (if d then 2 else 0) + 8 := by by_cases h : c <;> by_cases h' : d <;> simp only [h, h', if_true, if_false] <;> decide
theorem or_own {x : OpD} (h : x.at_.own = true) : IntKind.i64.wrap ((BitVec.ofInt IntKind.i64.bits ((if x.kind = 2 then 1 else 0) + (if x.left = true then 2 else 0)) ||| BitVec.ofInt IntKind.i64.bits 4).toNat : Int) = flagI x := by rw [or_4, flagI, if_pos h]
theorem or_far {x : OpD} (h : x.at_.own = false) (h' : rootB x.at_ = false) : IntKind.i64.wrap ((BitVec.ofInt IntKind.i64.bits ((if x.kind = 2 then 1 else 0) + (if x.left = true then 2 else 0)) ||| BitVec.ofInt IntKind.i64.bits 8).toNat : Int) = flagI x := by rw [or_8, flagI, h, h']; rfl
theorem or_root {x : OpD} (h : x.at_.own = false) (h' : rootB x.at_ = true) : (if x.kind = 2 then 1 else 0) + (if x.left = true then 2 else 0) = flagI x := by rw [flagI, h, h']; exact (Int.add_zero _).symm
theorem flag_lt (x : OpD) : flagI x < 9223372036854775808 := by have := flagI_range x; omega
theorem flag_len (x : OpD) : (numB (flagI x)).length ≤ 9 := numB_len (flag_lt x)
theorem put_any (v : Value) (xs : List UInt8) (n : Nat) (w : World) (ho : Own w 5 1 v (bytesC xs)) (hr : xs.length + (vi n).length ≤ 140737488355328) : Calls Tryd.prog 62 #[v, .int .i64 (n : Int)] w (Ret fun v' w' => AppB 5 w v xs w' v' (vi n)) := by
 refine calls_of_CW 20 [4] [(0, v), (1, .int .i64 (n : Int))] Tryd.func62 rfl rfl rfl (by simp) args2 ?_
 refine CW.sr fun K1 hK1 => ?_
 refine WL.a rfl ?_
 refine WL.nil (hK1 _ _ ?_); try clear hK1
 refine CW.seq fun K2 hK2 => ?_
 refine CW.block ?_
 refine CW.loop (X := Nat × List UInt8 × Value) (fun x => [(0, x.2.2), (1, .int .i64 (x.1 : Int))]) (fun x w0 => AppB 5 w v xs w0 x.2.2 x.2.1 ∧ x.2.1 ++ vi x.1 = vi n) (fun x => x.1) (n, [], v) (Fr.le.cons rfl (Fr.le.cons rfl Fr.le.nil)) ⟨AppB.refl ho, rfl⟩ ?_
 intro x w1 hl1
 obtain ⟨n1, pre, v1⟩ := x
 dsimp only at hl1 ⊢
 obtain ⟨hA, hvi⟩ := hl1
 have hlen := congrArg List.length hvi
 simp only [List.length_append] at hlen
 try simp only [] at hlen hvi
 refine CW.seq fun K3 hK3 => ?_
 refine CW.sr fun K4 hK4 => ?_
 refine WL.m rfl ?_
 refine WL.v (Y.geq rfl rfl) ?_
 refine WL.nil (hK4 _ _ ?_); try clear hK4
 (first | refine cd_ rfl ?_ ?_ | refine ce_ rfl ?_ ?_ | refine cn_ rfl ?_ ?_ | refine cb_ rfl ?_ ?_) <;> intro ht5
 ·
  -- then
  refine CW.skip ?_
  refine hK3 _ _ ?_; try clear hK3
  refine CW.seq fun K6 hK6 => ?_
  refine CW.block ?_
  refine CW.region ?_
  refine WL.m rfl ?_
  refine WL.m rfl ?_
  refine WL.v (Y.conv_int Tryd.underlying3 Tryd.underlying5 rfl) ?_
  refine WL.v (Y.or_k rfl rfl ((u8_or n1))) ?_
  refine WL.st (St.buildSlice rfl (bs1 _)) de_ fun v13 w2 hR2 => ?_
  obtain ⟨g, rfl, hg, hB, hx⟩ := hR2
  refine WL.st (St.app Tryd.underlying69 Tryd.underlying69 ai_u8 rfl rfl ((hA.extR hx).1) (Blk.src1 hB) (by rw [vi_ge (n := n1) om_] at hlen; simp only [List.length_append, List.length_cons] at hlen ⊢; omega)) de_ fun v14 w3 hR3 => ?_
  have hA2 := (hA.extR hx).trans hR3
  refine WL.a rfl ?_
  refine WL.nil (hK6 _ _ ?_); try clear hK6
  refine CW.region ?_
  refine WL.m rfl ?_
  refine WL.v (Y.shr rfl rfl de_ (shr7 n1)) ?_
  refine WL.a rfl ?_
  refine WL.nil ?_
  refine ⟨(n1 / 128, pre ++ [UInt8.ofNat (n1 % 128 + 128)], _), by show n1 / 128 < n1; omega, (Fr.le.cons rfl (Fr.le.cons rfl Fr.le.nil)), hA2, ?_⟩
  rw [← hvi, vi_ge (n := n1) om_]
  simp
 refine CW.exit ?_
 refine hK2 _ _ ?_; try clear hK2
 refine CW.sr fun K7 hK7 => ?_
 refine WL.m rfl ?_
 refine WL.m rfl ?_
 refine WL.v (Y.conv_int Tryd.underlying3 Tryd.underlying5 rfl) ?_
 refine WL.st (St.buildSlice rfl (bs1 _)) de_ fun v18 w4 hR4 => ?_
 obtain ⟨g, rfl, hg, hB, hx⟩ := hR4
 refine WL.st (St.app Tryd.underlying69 Tryd.underlying69 ai_u8 rfl rfl ((hA.extR hx).1) (Blk.src1 (by rw [← u8_of]; exact hB)) (by rw [vi_lt (n := n1) om_] at hlen; simp only [List.length_append, List.length_cons, List.length_nil] at hlen ⊢; omega)) de_ fun v19 w5 hR5 => ?_
 have hA2 := (hA.extR hx).trans hR5
 refine WL.a rfl ?_
 refine WL.nil (hK7 _ _ ?_); try clear hK7
 refine CW.ret ⟨_, rfl, ?_⟩
 rw [← hvi, vi_lt (n := n1) om_]
 exact hA2
theorem num_any (n : Int) (w : World) (hn : n < 9223372036854775808) : Calls Tryd.prog 61 #[.int .i64 n] w (Ret fun v w' => ∃ u, v = .tuple #[u, .int .i64 (if n < 0 then 9 else 0)] ∧ AppB 5 w (.slice none 0 0) [] w' u (numB n)) := by
 refine calls_of_CW 8 [2, 3] [(0, .int .i64 n)] Tryd.func61 rfl rfl rfl (by simp) args1 ?_
 refine CW.sr fun K1 hK1 => ?_
 refine WL.a rfl ?_
 refine WL.a rfl ?_
 refine WL.nil (hK1 _ _ ?_); try clear hK1
 refine CW.seq fun K2 hK2 => ?_
 refine CW.sr fun K3 hK3 => ?_
 refine WL.m rfl ?_
 refine WL.v (Y.lss rfl rfl) ?_
 refine WL.nil (hK3 _ _ ?_); try clear hK3
 (first | refine cd_ rfl ?_ ?_ | refine ce_ rfl ?_ ?_ | refine cn_ rfl ?_ ?_ | refine cb_ rfl ?_ ?_) <;> intro ht4
 ·
  -- then
  refine CW.sr fun K5 hK5 => ?_
  refine WL.a rfl ?_
  refine WL.a rfl ?_
  refine WL.nil (hK5 _ _ ?_); try clear hK5
  refine CW.ret ⟨_, rfl, ?_⟩
  exact ⟨_, by rw [if_pos ht4], by rw [numB, if_pos ht4]; exact AppB.refl Own.nil⟩
 refine CW.skip ?_
 refine hK2 _ _ ?_; try clear hK2
 refine CW.sr fun K6 hK6 => ?_
 refine WL.m rfl ?_
 refine WL.call Tryd.func62 rfl rfl rfl ((by rw [← Int.toNat_of_nonneg (Int.not_lt.1 ht4)]; exact put_any _ [] _ _ Own.nil (by have := vi_len9 (n := n.toNat) om_; simp; omega))) (by simp) ?_; rintro v7 w1 hR1
 skip
 refine WL.a rfl ?_
 refine WL.a rfl ?_
 refine WL.nil (hK6 _ _ ?_); try clear hK6
 refine CW.ret ⟨_, rfl, ?_⟩
 exact ⟨_, by rw [if_neg ht4], by rw [numB, if_neg ht4]; exact hR1⟩
theorem text_any (s : ByteArray) (w : World) (hs : s.size ≤ 140737488355300) : Calls Tryd.prog 42 #[.string s] w (Ret fun v w' => AppB 5 w (.slice none 0 0) [] w' v (textB s.toList)) := by
 have h9 := vi_len9 (n := s.size) om_
 refine calls_of_CW 8 [2] [(0, .string s)] Tryd.func42 rfl rfl rfl (by simp) args1 ?_
 refine CW.sr fun K1 hK1 => ?_
 refine WL.a rfl ?_
 refine WL.nil (hK1 _ _ ?_); try clear hK1
 refine CW.sr fun K2 hK2 => ?_
 refine WL.m rfl ?_
 refine WL.v (Y.len_string Tryd.underlying9 rfl) ?_
 refine WL.call Tryd.func62 rfl rfl rfl ((put_any _ [] s.size _ Own.nil (by simp; omega))) (by simp) ?_; rintro v5 w1 hR1
 skip
 refine WL.m rfl ?_
 refine WL.st (St.appS Tryd.underlying69 Tryd.underlying9 ai_u8 rfl rfl hR1.1 (by simp; omega)) de_ fun v7 w2 hR2 => ?_
 skip
 refine WL.a rfl ?_
 refine WL.nil (hK2 _ _ ?_); try clear hK2
 refine CW.ret ⟨_, rfl, ?_⟩
 unfold textB
 rw [toList_length]
 exact hR1.trans hR2
theorem cnum_any (v : Value) (xs : List UInt8) (n : Int) (w : World) (ho : Own w 5 1 v (bytesC xs)) (hn : n < 9223372036854775808) (hr : xs.length + 20 ≤ 140737488355328) : Calls Tryd.prog 41 #[v, .int .i64 n] w (Ret fun v' w' => AppB 5 w v xs w' v' (numB n)) := by
 refine calls_of_CW 15 [4] [(0, v), (1, .int .i64 n)] Tryd.func41 rfl rfl rfl (by simp) args2 ?_
 refine CW.sr fun K1 hK1 => ?_
 refine WL.a rfl ?_
 refine WL.nil (hK1 _ _ ?_); try clear hK1
 refine CW.sr fun K2 hK2 => ?_
 refine WL.m rfl ?_
 refine WL.call Tryd.func61 rfl rfl rfl ((num_any n _ hn)) (by simp) ?_; rintro v9 w1 hR1
 obtain ⟨u, rfl, hA⟩ := hR1
 refine WL.m rfl ?_
 refine WL.v (Y.extract rfl rfl) ?_
 refine WL.v (Y.extract rfl rfl) ?_
 refine WL.a rfl ?_
 refine WL.a rfl ?_
 refine WL.nil (hK2 _ _ ?_); try clear hK2
 refine CW.sr fun K3 hK3 => ?_
 refine WL.m rfl ?_
 refine WL.m rfl ?_
 refine WL.st (St.app Tryd.underlying69 Tryd.underlying69 ai_u8 rfl rfl (ho.ext hA.nilExt) (Src.own hA.nilOwn) (by have := numB_len hn; omega)) de_ fun v14 w2 hR2 => ?_
 skip
 refine WL.a rfl ?_
 refine WL.nil (hK3 _ _ ?_); try clear hK3
 refine CW.ret ⟨_, rfl, ?_⟩
 exact hR2.extL hA.nilExt
theorem cop_any (v : Value) (xs : List UInt8) (x : OpD) (w : World) (ho : Own w 5 1 v (bytesC xs)) (hn : x.at_.n < 9223372036854775808) (hr : xs.length + 100 ≤ 140737488355328) : Calls Tryd.prog 43 #[v, opV x] w (Ret fun v' w' => AppB 5 w v xs w' v' (opB x)) := by
 have ho0 := ho
 refine calls_of_CW 55 [4] [(0, v), (1, opV x)] Tryd.func43 rfl rfl rfl (by simp) args2 ?_
 refine CW.sr fun K1 hK1 => ?_
 refine WL.box rfl rfl de_ fun g3 w1 hx1 hg3 hB3 => ?_
 have hM3 := hB3.mem; have hB0 := hB3
 refine WL.a rfl ?_
 refine WL.nil (hK1 _ _ ?_); try clear hK1
 refine CW.sr fun K2 hK2 => ?_
 refine WL.a rfl ?_
 refine WL.nil (hK2 _ _ ?_); try clear hK2
 refine CW.seq_to (X := Unit) (fun _ => [(0, v), (3, .pointer (some ⟨g3, 0, none⟩)), (5, .int .i64 (if x.kind = 2 then 1 else 0))]) (fun _ w0 => Ext w1 w0) ?_ ?_
 ·
  skip
  refine CW.sr fun K4 hK4 => ?_
  refine WL.v (Y.fieldAddr fo_apiOp0 rfl) ?_
  refine WL.v (Y.load1 Tryd.underlying3 rfl hM3.op0 rfl) ?_
  refine WL.v (Y.eql rfl rfl) ?_
  refine WL.nil (hK4 _ _ ?_); try clear hK4
  (first | refine cd_ rfl ?_ ?_ | refine ce_ rfl ?_ ?_ | refine cn_ rfl ?_ ?_ | refine cb_ rfl ?_ ?_) <;> intro ht5
  ·
   -- then
   refine CW.region ?_
   refine WL.m rfl ?_
   refine WL.v (Y.or_k rfl rfl (or_1)) ?_
   refine WL.a rfl ?_
   refine WL.nil ?_
   exact ⟨(), Fr.le.cons rfl (Fr.le.cons rfl (Fr.le.cons (by rw [if_pos ht5]; rfl) Fr.le.nil)), Chg.refl⟩
  refine CW.skip ?_
  exact ⟨(), Fr.le.cons rfl (Fr.le.cons rfl (Fr.le.cons (by rw [if_neg ht5]; rfl) Fr.le.nil)), Chg.refl⟩
 rintro u w2 hj2
 have hM3 := hM3.ext hj2
 have hB3 := hB3.ext hj2
 have hx2 := hj2
 refine CW.seq_to (X := Unit) (fun _ => [(0, v), (3, .pointer (some ⟨g3, 0, none⟩)), (5, .int .i64 ((if x.kind = 2 then 1 else 0) + (if x.left = true then 2 else 0)))]) (fun _ w0 => Ext w1 w0) ?_ ?_
 ·
  skip
  refine CW.sr fun K7 hK7 => ?_
  refine WL.v (Y.fieldAddr fo_apiOp1 rfl) ?_
  refine WL.v (Y.load1 Tryd.underlying4 rfl hM3.op1 rfl) ?_
  refine WL.nil (hK7 _ _ ?_); try clear hK7
  (first | refine cd_ rfl ?_ ?_ | refine ce_ rfl ?_ ?_ | refine cn_ rfl ?_ ?_ | refine cb_ rfl ?_ ?_) <;> intro ht8
  ·
   -- then
   refine CW.region ?_
   refine WL.m rfl ?_
   refine WL.v (Y.or_k rfl rfl (or_2 _)) ?_
   refine WL.a rfl ?_
   refine WL.nil ?_
   exact ⟨(), Fr.le.cons rfl (Fr.le.cons rfl (Fr.le.cons (by rw [ht8]; rfl) Fr.le.nil)), hx2.thenExt Chg.refl⟩
  refine CW.skip ?_
  exact ⟨(), Fr.le.cons rfl (Fr.le.cons rfl (Fr.le.cons (by rw [ht8, if_neg (show ¬ (false = true) by decide), Int.add_zero]; rfl) Fr.le.nil)), hx2.thenExt Chg.refl⟩
 rintro u w3 hj3
 have hE3 := hj3
 have ho := ho0.ext (hx1.thenExt hj3)
 have hB3 := hB0.ext hj3
 have hM3 := hB3.mem
 have hne : v.ownBlock ≠ some g3 := fun e => by have := ho0.lt _ e; omega
 have hfl := flag_len x
 have hnl := numB_len hn
 have hdl := x.at_.c.2
 refine CW.seq_to (X := Value) (fun u => [(0, u), (3, .pointer (some ⟨g3, 0, none⟩))]) (fun u w0 => AppB 5 w v xs w0 u (if x.at_.own = true then numB (flagI x) ++ numB x.at_.n else if rootB x.at_ = true then numB (flagI x) else numB (flagI x) ++ x.at_.c.1 ++ numB x.at_.n) ∧ Blk w0 g3 62 (opC x)) ?_ ?_
 ·
  skip
  refine CW.block ?_
  refine CW.sr fun K10 hK10 => ?_
  refine WL.v (Y.fieldAddr fo_apiOp2 rfl) ?_
  refine WL.v (Y.fieldAddr fo_apiRef0 rfl) ?_
  refine WL.v (Y.load1 Tryd.underlying4 rfl hM3.op2.ref0 rfl) ?_
  refine WL.a rfl ?_
  refine WL.nil (hK10 _ _ ?_); try clear hK10
  (first | refine cd_ rfl ?_ ?_ | refine ce_ rfl ?_ ?_ | refine cn_ rfl ?_ ?_ | refine cb_ rfl ?_ ?_) <;> intro ht11
  ·
   -- then
   refine CW.held (fun wq => Blk wq g3 62 (opC x)) kr_ 9 rfl fun w4 hx4 => ?_; have hM3 := hM3.ext hx4; have hB3 := hB3.ext hx4
   have hS : Blk w4 g3 62 (opC x) := hB3
   refine RH.tk 0 hS rfl (fun wq hq => Y.move rfl) ?_
   refine RH.tk 1 hS rfl (fun wq hq => Y.move rfl) ?_
   refine RH.tk 2 hS rfl (fun wq hq => Y.or_k rfl rfl (or_own ht11)) ?_
   refine RH.tk 4 hS rfl (fun wq hq => Y.fieldAddr fo_apiOp2 rfl) ?_
   refine RH.tk 5 hS rfl (fun wq hq => Y.fieldAddr fo_apiRef2 rfl) ?_
   refine RH.tk 6 hS rfl (fun wq hq => Y.load1 Tryd.underlying3 rfl hq.mem.op2.ref2 rfl) ?_
   refine RH.one 3 kr_ ?_
   refine RS.call rfl (fun _ _ h => by cases h) Tryd.func41 rfl rfl rfl (cnum_any _ _ _ _ (ho.ext hx4) (flag_lt x) om_) de_ fun v34 w5 hR5 => ?_
   have hS := hR5.blk hS hne
   have hne := hR5.away hB3.lt hne
   refine ⟨hS, ?_⟩
   refine RH.one 7 kr_ ?_
   refine RS.call rfl (fun _ _ h => by cases h) Tryd.func41 rfl rfl rfl (cnum_any _ _ _ _ hR5.1 hn (by rw [List.length_append]; omega)) de_ fun v38 w6 hR6 => ?_
   have hS := hR6.blk hS hne
   have hA := (hR5.trans hR6).extL (hx1.thenExt (hE3.thenExt hx4))
   refine ⟨hS, ?_⟩
   refine RH.tk 8 hS rfl (fun wq hq => Y.assign rfl) ?_
   refine RH.done kr_ ?_
   exact ⟨_, Fr.le.cons rfl (Fr.le.cons rfl Fr.le.nil), by rw [if_pos ht11]; exact hA, hS⟩
  refine CW.sr fun K12 hK12 => ?_
  refine WL.v (Y.fieldAddr fo_apiOp2 rfl) ?_
  refine WL.v (Y.load Tryd.underlying60 rfl hM3.op2 (sz_apiRef _) rfl) ?_
  refine WL.call Tryd.func63 rfl rfl rfl (root_any _ _) (by simp) ?_; rintro v w7 ⟨rfl, hx7⟩; have hM3 := hM3.ext hx7; have hB3 := hB3.ext hx7
  refine WL.a rfl ?_
  refine WL.nil (hK12 _ _ ?_); try clear hK12
  (first | refine cd_ rfl ?_ ?_ | refine ce_ rfl ?_ ?_ | refine cn_ rfl ?_ ?_ | refine cb_ rfl ?_ ?_) <;> intro ht13
  ·
   -- then
   refine CW.region ?_
   refine WL.m rfl ?_
   refine WL.m rfl ?_
   refine WL.call Tryd.func41 rfl rfl rfl (by rw [or_root ht11 (decide_eq_true ht13)]; exact cnum_any _ _ _ _ (ho.ext hx7) (flag_lt x) om_) (by simp) ?_; rintro v45 w8 hR8
   have hS := hR8.blk hB3 hne
   refine WL.a rfl ?_
   refine WL.nil ?_
   exact ⟨_, Fr.le.cons rfl (Fr.le.cons rfl Fr.le.nil), by rw [if_neg (by simp [ht11]), if_pos (show rootB x.at_ = true from decide_eq_true ht13)]; exact hR8.extL (hx1.thenExt (hE3.thenExt hx7)), hS⟩
  refine CW.held (fun wq => Blk wq g3 62 (opC x)) kr_ 13 rfl fun w9 hx9 => ?_; have hM3 := hM3.ext hx9; have hB3 := hB3.ext hx9
  have hS : Blk w9 g3 62 (opC x) := hB3
  refine RH.tk 0 hS rfl (fun wq hq => Y.move rfl) ?_
  refine RH.tk 1 hS rfl (fun wq hq => Y.move rfl) ?_
  refine RH.tk 2 hS rfl (fun wq hq => Y.or_k rfl rfl (or_far ht11 (decide_eq_false ht13))) ?_
  refine RH.tk 4 hS rfl (fun wq hq => Y.fieldAddr fo_apiOp2 rfl) ?_
  refine RH.tk 5 hS rfl (fun wq hq => Y.fieldAddr fo_apiRef1 rfl) ?_
  refine RH.tk 6 hS rfl (fun wq hq => Y.slice_arr Tryd.underlying36 rfl sz_uint8) ?_
  refine RH.tk 8 hS rfl (fun wq hq => Y.fieldAddr fo_apiOp2 rfl) ?_
  refine RH.tk 9 hS rfl (fun wq hq => Y.fieldAddr fo_apiRef2 rfl) ?_
  refine RH.tk 10 hS rfl (fun wq hq => Y.load1 Tryd.underlying3 rfl hq.mem.op2.ref2 rfl) ?_
  refine RH.one 3 kr_ ?_
  refine RS.call rfl (fun _ _ h => by cases h) Tryd.func41 rfl rfl rfl (cnum_any _ _ _ _ (ho.ext (hx7.thenExt hx9)) (flag_lt x) om_) de_ fun v18 w10 hR10 => ?_
  have hS := hR10.blk hS hne
  have hne := hR10.away hB3.lt hne
  refine ⟨hS, ?_⟩
  refine RH.one 7 kr_ ?_
  refine RS.st rfl (St.app Tryd.underlying69 Tryd.underlying69 ai_u8 rfl rfl hR10.1 (Src.dig hS.mem.op2.ref1) (by rw [List.length_append]; omega)) de_ fun v22 w11 hR11 => ?_
  have hL := hS.lt
  have hS := hR11.blk hS hne
  have hne := hR11.away hL hne
  refine ⟨hS, ?_⟩
  refine RH.one 11 kr_ ?_
  refine RS.call rfl (fun _ _ h => by cases h) Tryd.func41 rfl rfl rfl (cnum_any _ _ _ _ hR11.1 hn (by simp only [List.length_append, hdl]; omega)) de_ fun v26 w12 hR12 => ?_
  have hS := hR12.blk hS hne
  refine ⟨hS, ?_⟩
  refine RH.tk 12 hS rfl (fun wq hq => Y.assign rfl) ?_
  refine RH.done kr_ ?_
  exact ⟨_, Fr.le.cons rfl (Fr.le.cons rfl Fr.le.nil), by rw [if_neg (by simp [ht11]), if_neg (show ¬ rootB x.at_ = true from fun e => ht13 (of_decide_eq_true e)), List.append_assoc]; exact (hR10.trans (hR11.trans hR12)).extL (hx1.thenExt (hE3.thenExt (hx7.thenExt hx9))), hS⟩
 rintro u w13 hj13
 obtain ⟨hA, hB3⟩ := hj13
 have hM3 := hB3.mem
 refine CW.seq_to (X := Value) (fun u => [(0, u)]) (fun u w0 => AppB 5 w v xs w0 u (opB x)) ?_ ?_
 ·
  skip
  refine CW.sr fun K15 hK15 => ?_
  refine WL.v (Y.fieldAddr fo_apiOp0 rfl) ?_
  refine WL.v (Y.load1 Tryd.underlying3 rfl hM3.op0 rfl) ?_
  refine WL.v (Y.eql rfl rfl) ?_
  refine WL.nil (hK15 _ _ ?_); try clear hK15
  (first | refine cd_ rfl ?_ ?_ | refine ce_ rfl ?_ ?_ | refine cn_ rfl ?_ ?_ | refine cb_ rfl ?_ ?_) <;> intro ht16
  ·
   -- then
   refine CW.region ?_
   refine WL.m rfl ?_
   refine WL.v (Y.fieldAddr fo_apiOp3 rfl) ?_
   refine WL.v (Y.load1 Tryd.underlying5 rfl hM3.op3 rfl) ?_
   refine WL.st (St.buildSlice rfl (bs1 _)) de_ fun v52 w14 hR14 => ?_
   obtain ⟨g, rfl, hg, hB, hx⟩ := hR14
   refine WL.st (St.app Tryd.underlying69 Tryd.underlying69 ai_u8 rfl rfl (hA.1.ext hx) (Blk.src1 hB) (by have := opB_len hn; rw [opB] at this; rw [List.length_append] at this ⊢; omega)) de_ fun v53 w15 hR15 => ?_
   skip
   refine WL.a rfl ?_
   refine WL.nil ?_
   exact ⟨_, Fr.le.cons rfl Fr.le.nil, by rw [opB, if_pos ht16]; exact (hA.extR hx).trans hR15⟩
  refine CW.skip ?_
  exact ⟨_, Fr.le.cons rfl Fr.le.nil, by rw [opB, if_neg ht16, List.append_nil]; exact hA⟩
 rintro u w16 hj16
 skip
 refine CW.sr fun K17 hK17 => ?_
 refine WL.m rfl ?_
 refine WL.a rfl ?_
 refine WL.nil (hK17 _ _ ?_); try clear hK17
 refine CW.ret ⟨_, rfl, ?_⟩
 exact hj16
theorem encode_any (cv : Value) (cm : ComD) (w : World) (hc : Com w cv cm) : Calls Tryd.prog 21 #[cv] w (Ret fun v w' => ∃ u, v = .tuple #[u, .int .i64 (mayI cm)] ∧ AppB 5 w (.slice none 0 0) [] w' u (if mayI cm = 0 then comB cm else [])) := by
 have hc0 := hc
 obtain ⟨_, _, rfl, ⟨Ap, mp, cp, rfl, hpl, hpc, hpm, hpx⟩, ⟨Ao, mo, co, rfl, hol, hoc, hom, hox⟩, hau, hno⟩ := hc0
 unfold maxLen at hpm hom hau hno
 refine calls_of_CW 56 [2, 3] [(0, .agg (comC (.slice Ap mp cp) cm.author cm.note (.slice Ao mo co)).toArray)] Tryd.func21 rfl rfl rfl (by simp) args1 ?_
 refine CW.sr fun K1 hK1 => ?_
 refine WL.box rfl rfl de_ fun g1 w1 hx1 hg1 hB1 => ?_
 have hM1 := hB1.mem
 refine WL.a rfl ?_
 refine WL.a rfl ?_
 refine WL.nil (hK1 _ _ ?_); try clear hK1
 refine CW.seq fun K2 hK2 => ?_
 refine CW.sr fun K3 hK3 => ?_
 refine WL.v (Y.load Tryd.underlying29 rfl hM1 (sz_apiCommit _ _ _ _) rfl) ?_
 refine WL.call Tryd.func40 rfl rfl rfl ((may_any _ cm _ (hc.ext hx1))) (by simp) ?_; rintro v w2 ⟨rfl, hx2⟩; have hM1 := hM1.ext hx2; have hB1 := hB1.ext hx2
 refine WL.a rfl ?_
 refine WL.nil (hK3 _ _ ?_); try clear hK3
 refine CW.sr fun K4 hK4 => ?_
 refine WL.m rfl ?_
 refine WL.v (Y.neq rfl rfl) ?_
 refine WL.nil (hK4 _ _ ?_); try clear hK4
 (first | refine cd_ rfl ?_ ?_ | refine ce_ rfl ?_ ?_ | refine cn_ rfl ?_ ?_ | refine cb_ rfl ?_ ?_) <;> intro ht5
 ·
  -- then
  refine CW.sr fun K6 hK6 => ?_
  refine WL.m rfl ?_
  refine WL.a rfl ?_
  refine WL.a rfl ?_
  refine WL.nil (hK6 _ _ ?_); try clear hK6
  refine CW.ret ⟨_, rfl, ?_⟩
  exact ⟨_, rfl, by rw [if_neg ht5]; exact (AppB.refl Own.nil).extR (hx1.thenExt hx2)⟩
 refine CW.skip ?_
 refine hK2 _ _ ?_; try clear hK2
 refine CW.sr fun K7 hK7 => ?_
 refine WL.v (Y.fieldAddr fo_apiCommit0 rfl) ?_
 refine WL.v (Y.load1 Tryd.underlying25 rfl hM1.com0 rfl) ?_
 refine WL.v (Y.len_slice Tryd.underlying25 rfl) ?_
 refine WL.call Tryd.func41 rfl rfl rfl ((cnum_any _ [] (mp : Int) _ Own.nil om_ (by simp))) (by simp) ?_; rintro v18 w3 hR3
 have hmo := mayI_ok (Decidable.not_not.1 ht5)
 have hne := hR3.away hB1.lt (by simp [Value.ownBlock])
 have hB1 := hR3.blk hB1 (by simp [Value.ownBlock])
 have hM1 := hB1.mem
 have hA := hR3.extL (hx1.thenExt hx2)
 rw [numB_nat] at hA
 have hvp := vi_len9 (n := mp) (by have := hmo.parents; omega)
 have hvo := vi_len9 (n := mo) (by have := hmo.ops; omega)
 refine WL.a rfl ?_
 refine WL.nil (hK7 _ _ ?_); try clear hK7
 refine CW.seq fun K8 hK8 => ?_
 refine CW.sr fun K9 hK9 => ?_
 refine WL.v (Y.fieldAddr fo_apiCommit0 rfl) ?_
 refine WL.v (Y.load1 Tryd.underlying25 rfl hM1.com0 rfl) ?_
 refine WL.v (Y.len_slice Tryd.underlying25 rfl) ?_
 refine WL.m rfl ?_
 refine WL.nil (hK9 _ _ ?_); try clear hK9
 refine CW.block ?_
 refine CW.loop (X := Nat × Value) (fun x => [(1, .pointer (some ⟨g1, 0, none⟩)), (5, x.2), (20, .slice Ap mp cp), (21, .int .i64 (mp : Int)), (22, .int .i64 (x.1 : Int))]) (fun x w0 => x.1 ≤ mp ∧ AppB 5 w (.slice none 0 0) [] w0 x.2 (vi mp ++ ((cm.parents.take x.1).map (·.1)).flatten) ∧ Blk w0 g1 29 (comC (.slice Ap mp cp) cm.author cm.note (.slice Ao mo co)) ∧ x.2.ownBlock ≠ some g1) (fun x => mp - x.1) (0, v18) Fr.ok ⟨Nat.zero_le _, by simpa using hA, hB1, hne⟩ ?_
 intro x w4 hl4
 obtain ⟨i, u⟩ := x
 dsimp only at hl4 ⊢
 clear hA hB1 hM1 hne
 obtain ⟨hi, hA, hB1, hne⟩ := hl4
 have hL4 := hA.nilExt
 have hM1 := hB1.mem
 have hfl : ((cm.parents.take i).map (·.1)).flatten.length ≤ (cm.parents.take i).length * 32 := flat_len (fun x _ => Nat.le_of_eq x.2)
 have htl : (cm.parents.take i).length ≤ 8 := by rw [List.length_take]; have := hmo.parents; omega
 refine CW.sr fun K10 hK10 => ?_
 refine WL.v (Y.lss rfl rfl) ?_
 refine WL.nil (hK10 _ _ ?_); try clear hK10
 refine CW.seq fun K11 hK11 => ?_
 (first | refine cd_ rfl ?_ ?_ | refine ce_ rfl ?_ ?_ | refine cn_ rfl ?_ ?_ | refine cb_ rfl ?_ ?_) <;> intro ht12
 ·
  -- then
  refine CW.skip ?_
  refine hK11 _ _ ?_; try clear hK11
  refine CW.seq fun K13 hK13 => ?_
  refine CW.block ?_
  refine CW.sr fun K14 hK14 => ?_
  obtain ⟨d, hd⟩ : ∃ d, cm.parents[i]? = some d := ⟨_, List.getElem?_eq_getElem om_⟩
  obtain ⟨ad, rfl, hmd⟩ := hpx _ d hd
  refine WL.v (Y.indexAddrN Tryd.underlying25 rfl rfl sz0_apiDigest om_) ?_
  refine WL.v (Y.load Tryd.underlying36 rfl (hmd.ext hL4) (sz_apiDigest _) rfl) ?_
  refine as_apiDigest rfl (by simp) de_ fun g7 w5 hx5 hg7 hB7 => ?_
  have hM7 := hB7.mem; have hM1 := hM1.ext hx5; have hB1 := hB1.ext hx5
  refine WL.nil (hK14 _ _ ?_); try clear hK14
  refine CW.region ?_
  refine WL.m rfl ?_
  refine WL.v (Y.slice_arr Tryd.underlying36 rfl sz_uint8) ?_
  refine WL.st (St.app Tryd.underlying69 Tryd.underlying69 ai_u8 rfl rfl (hA.1.ext hx5) (Src.dig hM7) (by simp only [List.length_append, List.nil_append]; omega)) de_ fun v28 w6 hR6 => ?_
  have hA2 := hA.trans (hR6.extL hx5)
  have hne2 := hR6.away hB1.lt hne
  have hB2 := hR6.blk hB1 hne
  refine WL.a rfl ?_
  refine WL.nil (hK13 _ _ ?_); try clear hK13
  refine CW.region ?_
  refine WL.v (Y.add rfl rfl o2_) ?_
  refine WL.m rfl ?_
  refine WL.nil ?_
  refine ⟨(i + 1, _), by show mp - (i + 1) < mp - i; omega, Fr.ok, by show i + 1 ≤ mp; omega, ?_, hB2, hne2⟩
  show AppB _ _ _ _ _ _ (_ ++ ((cm.parents.take (i+1)).map (·.1)).flatten)
  rw [flat_take_succ hd, ← List.append_assoc]
  exact hA2
 refine CW.exit ?_
 refine hK8 _ _ ?_; try clear hK8
 refine CW.seq fun K15 hK15 => ?_
 refine CW.held (fun wq => Blk wq g1 29 (comC (.slice Ap mp cp) cm.author cm.note (.slice Ao mo co))) kr_ 10 rfl fun w7 hx7 => ?_; have hM1 := hM1.ext hx7; have hB1 := hB1.ext hx7
 have hS : Blk w7 g1 29 (comC (.slice Ap mp cp) cm.author cm.note (.slice Ao mo co)) := hB1
 rw [List.take_of_length_le om_] at hA hfl
 have hA := hA.extR hx7
 have hna := hmo.name
 have hnn := hmo.note
 have hpp := hmo.parents
 have hta : (textB cm.author.toList).length ≤ 33 := by have := vi_len9 (n := cm.author.size) om_; rw [textB, List.length_append, toList_length]; omega
 have htn : (textB cm.note.toList).length ≤ 209 := by have := vi_len9 (n := cm.note.size) om_; rw [textB, List.length_append, toList_length]; omega
 refine RH.tk 0 hS rfl (fun wq hq => Y.move rfl) ?_
 refine RH.tk 1 hS rfl (fun wq hq => Y.fieldAddr fo_apiCommit1 rfl) ?_
 refine RH.tk 2 hS rfl (fun wq hq => Y.load1 Tryd.underlying9 rfl hq.mem.com1 rfl) ?_
 refine RH.tk 5 hS rfl (fun wq hq => Y.fieldAddr fo_apiCommit2 rfl) ?_
 refine RH.tk 6 hS rfl (fun wq hq => Y.load1 Tryd.underlying9 rfl hq.mem.com2 rfl) ?_
 refine RH.one 3 kr_ ?_
 refine RS.call rfl (fun _ _ h => by cases h) Tryd.func42 rfl rfl rfl ((text_any _ _ om_)) de_ fun v33 w8 hR8 => ?_
 have hx8 := hR8.nilExt
 have hS := hS.ext hx8
 have hA := hA.extR hx8
 refine ⟨hS, ?_⟩
 refine RH.one 4 kr_ ?_
 refine RS.st rfl (St.app Tryd.underlying69 Tryd.underlying69 ai_u8 rfl rfl hA.1 (Src.own hR8.nilOwn) (by simp only [List.length_append, List.nil_append]; omega)) de_ fun v34 w9 hR9 => ?_
 have hne9 := hR9.away hS.lt hne
 have hS := hR9.blk hS hne
 have hA := hA.trans hR9
 refine ⟨hS, ?_⟩
 refine RH.one 7 kr_ ?_
 refine RS.call rfl (fun _ _ h => by cases h) Tryd.func42 rfl rfl rfl ((text_any _ _ om_)) de_ fun v37 w10 hR10 => ?_
 have hx10 := hR10.nilExt
 have hS := hS.ext hx10
 have hA := hA.extR hx10
 refine ⟨hS, ?_⟩
 refine RH.one 8 kr_ ?_
 refine RS.st rfl (St.app Tryd.underlying69 Tryd.underlying69 ai_u8 rfl rfl hA.1 (Src.own hR10.nilOwn) (by simp only [List.length_append, List.nil_append]; omega)) de_ fun v38 w11 hR11 => ?_
 have hne11 := hR11.away hS.lt hne9
 have hS := hR11.blk hS hne9
 have hA := hA.trans hR11
 have hB1 := hS
 have hM1 := hB1.mem
 refine ⟨hS, ?_⟩
 refine RH.tk 9 hS rfl (fun wq hq => Y.assign rfl) ?_
 refine RH.done kr_ ?_
 refine hK15 _ _ ?_; try clear hK15
 refine CW.sr fun K16 hK16 => ?_
 refine WL.m rfl ?_
 refine WL.v (Y.fieldAddr fo_apiCommit3 rfl) ?_
 refine WL.v (Y.load1 Tryd.underlying27 rfl hM1.com3 rfl) ?_
 refine WL.v (Y.len_slice Tryd.underlying27 rfl) ?_
 refine WL.call Tryd.func41 rfl rfl rfl ((cnum_any _ _ (mo : Int) _ hA.1 om_ (by simp only [List.length_append, List.nil_append]; omega))) (by simp) ?_; rintro v43 w12 hR12
 have hne2 := hR12.away hB1.lt hne11
 have hB1 := hR12.blk hB1 hne11
 have hM1 := hB1.mem
 have hA := hA.trans hR12
 rw [numB_nat] at hA
 have hPl : (vi mp ++ (cm.parents.map (·.1)).flatten ++ textB cm.author.toList ++ textB cm.note.toList ++ vi mo).length ≤ 600 := by simp only [List.length_append]; omega
 generalize hPre : vi mp ++ (cm.parents.map (·.1)).flatten ++ textB cm.author.toList ++ textB cm.note.toList ++ vi mo = pre at hA hPl
 refine WL.a rfl ?_
 refine WL.nil (hK16 _ _ ?_); try clear hK16
 refine CW.seq fun K17 hK17 => ?_
 refine CW.sr fun K18 hK18 => ?_
 refine WL.v (Y.fieldAddr fo_apiCommit3 rfl) ?_
 refine WL.v (Y.load1 Tryd.underlying27 rfl hM1.com3 rfl) ?_
 refine WL.v (Y.len_slice Tryd.underlying27 rfl) ?_
 refine WL.m rfl ?_
 refine WL.nil (hK18 _ _ ?_); try clear hK18
 refine CW.block ?_
 refine CW.loop (X := Nat × Value) (fun x => [(1, .pointer (some ⟨g1, 0, none⟩)), (5, x.2), (45, .slice Ao mo co), (46, .int .i64 (mo : Int)), (47, .int .i64 (x.1 : Int))]) (fun x w0 => x.1 ≤ mo ∧ AppB 5 w (.slice none 0 0) [] w0 x.2 (pre ++ ((cm.ops.take x.1).map opB).flatten) ∧ Blk w0 g1 29 (comC (.slice Ap mp cp) cm.author cm.note (.slice Ao mo co)) ∧ x.2.ownBlock ≠ some g1) (fun x => mo - x.1) (0, v43) Fr.ok ⟨Nat.zero_le _, by simpa using hA, hB1, hne2⟩ ?_
 intro x w13 hl13
 clear hA hB1 hM1 hne2 hi
 obtain ⟨i, u⟩ := x
 dsimp only at hl13 ⊢
 obtain ⟨hi, hA, hB1, hne⟩ := hl13
 have hL13 := hA.nilExt
 have hM1 := hB1.mem
 have hfl : ((cm.ops.take i).map opB).flatten.length ≤ (cm.ops.take i).length * 51 := flat_len (fun x hx => opB_len (by have := hmo.n (List.mem_of_mem_take hx); omega))
 have htl : (cm.ops.take i).length ≤ 2000 := by rw [List.length_take]; have := hmo.ops; omega
 refine CW.sr fun K19 hK19 => ?_
 refine WL.v (Y.lss rfl rfl) ?_
 refine WL.nil (hK19 _ _ ?_); try clear hK19
 refine CW.seq fun K20 hK20 => ?_
 (first | refine cd_ rfl ?_ ?_ | refine ce_ rfl ?_ ?_ | refine cn_ rfl ?_ ?_ | refine cb_ rfl ?_ ?_) <;> intro ht21
 ·
  -- then
  refine CW.skip ?_
  refine hK20 _ _ ?_; try clear hK20
  refine CW.seq fun K22 hK22 => ?_
  refine CW.block ?_
  refine CW.sr fun K23 hK23 => ?_
  obtain ⟨y, hy⟩ : ∃ y, cm.ops[i]? = some y := ⟨_, List.getElem?_eq_getElem om_⟩
  obtain ⟨ad, rfl, hmd⟩ := hox _ y hy
  refine WL.v (Y.indexAddrN Tryd.underlying27 rfl rfl sz0_apiOp om_) ?_
  refine WL.v (Y.load Tryd.underlying62 rfl (hmd.ext hL13) (sz_apiOp _) rfl) ?_
  refine as_apiOp rfl (by simp) de_ fun g9 w14 hx14 hg9 hB9 => ?_
  have hM9 := hB9.mem; have hM1 := hM1.ext hx14; have hB1 := hB1.ext hx14
  refine WL.nil (hK23 _ _ ?_); try clear hK23
  refine CW.region ?_
  refine WL.m rfl ?_
  refine WL.v (Y.load Tryd.underlying62 rfl hM9 (sz_apiOp _) rfl) ?_
  refine WL.call Tryd.func43 rfl rfl rfl ((cop_any _ _ y _ (hA.1.ext hx14) (by have := hmo.n (List.mem_of_getElem? hy); omega) (by simp only [List.length_append, List.nil_append]; omega))) (by simp) ?_; rintro v53 w15 hR15
  have hA2 := hA.trans (hR15.extL hx14)
  have hne2 := hR15.away hB1.lt hne
  have hB2 := hR15.blk hB1 hne
  refine WL.a rfl ?_
  refine WL.nil (hK22 _ _ ?_); try clear hK22
  refine CW.region ?_
  refine WL.v (Y.add rfl rfl o2_) ?_
  refine WL.m rfl ?_
  refine WL.nil ?_
  refine ⟨(i + 1, _), by show mo - (i + 1) < mo - i; omega, Fr.ok, by show i + 1 ≤ mo; omega, ?_, hB2, hne2⟩
  show AppB _ _ _ _ _ _ (_ ++ ((cm.ops.take (i+1)).map opB).flatten)
  rw [flat_take_succ hy, ← List.append_assoc]
  exact hA2
 refine CW.exit ?_
 refine hK17 _ _ ?_; try clear hK17
 refine CW.sr fun K24 hK24 => ?_
 refine WL.m rfl ?_
 refine WL.a rfl ?_
 refine WL.a rfl ?_
 refine WL.nil (hK24 _ _ ?_); try clear hK24
 refine CW.ret ⟨_, rfl, ?_⟩
 have h0 := mayOk_i hmo
 rw [List.take_of_length_le om_] at hA
 refine ⟨_, by rw [h0], ?_⟩
 rw [if_pos h0, comB, hpl, hol, hPre]
 exact hA
end Go.Proofs.YtmehkigmnpjcjaaDoor
/- Whether two commits are the same: slices.Equal at digests and operations, commit.Same and the reference's, walked. No condition. -/
namespace Go.Proofs.YtmehkigmnpjcjaaDoor
open Go.RowKit Go.Fw Go.Pl
def sameB (a b : ComD) : Bool := decide (a.parents = b.parents) && (a.author.toList == b.author.toList) && (a.note.toList == b.note.toList) && decide (a.ops = b.ops)
theorem list_part {α : Type} {xs ys : List α} {i : Nat} {a b : α} (ha : xs[i]? = some a) (hb : ys[i]? = some b) (h : ¬ a = b) : xs ≠ ys := by
 intro e; subst e; rw [ha] at hb; injection hb with hb; exact h hb
theorem list_whole {α : Type} {xs ys : List α} {i : Nat} (hl : xs.length = ys.length) (hi : xs.length ≤ i) (ht : xs.take i = ys.take i) : xs = ys := by
 rwa [List.take_of_length_le hi, List.take_of_length_le om_] at ht
theorem take_more {α : Type} {xs ys : List α} {i : Nat} {a b : α} (ht : xs.take i = ys.take i) (ha : xs[i]? = some a) (hb : ys[i]? = some b) (h : a = b) : xs.take (i + 1) = ys.take (i + 1) := by
 rw [take_succ ha, take_succ hb, ht, h]
theorem rSameD_any (u v : Value) (xs ys : List Dig) (w : World) (hu : Sl w digC 32 u xs) (hv : Sl w digC 32 v ys) : Calls Tryd.prog 13 #[u, v] w (Ret fun r w' => r = .bool (decide (xs = ys)) ∧ Ext w w') := by
 obtain ⟨A, m, c, rfl, hm, hmc, hcm, hxs⟩ := hu
 obtain ⟨B, n, d, rfl, hn, hnd, hdm, hys⟩ := hv
 unfold maxLen at hcm hdm
 refine calls_of_CW 26 [4] [(0, .slice A m c), (1, .slice B n d)] Tryd.func13 rfl rfl rfl (by simp) args2 ?_
 refine CW.sr fun K1 hK1 => ?_
 refine WL.a rfl ?_
 refine WL.nil (hK1 _ _ ?_); try clear hK1
 refine CW.seq fun K2 hK2 => ?_
 refine CW.sr fun K3 hK3 => ?_
 refine WL.m rfl ?_
 refine WL.v (Y.len_slice Tryd.underlying25 rfl) ?_
 refine WL.m rfl ?_
 refine WL.v (Y.len_slice Tryd.underlying25 rfl) ?_
 refine WL.v (Y.neq rfl rfl) ?_
 refine WL.nil (hK3 _ _ ?_); try clear hK3
 (first | refine cd_ rfl ?_ ?_ | refine ce_ rfl ?_ ?_ | refine cn_ rfl ?_ ?_ | refine cb_ rfl ?_ ?_) <;> intro ht4
 ·
  -- then
  refine CW.sr fun K5 hK5 => ?_
  refine WL.a rfl ?_
  refine WL.nil (hK5 _ _ ?_); try clear hK5
  refine CW.ret ⟨_, rfl, ?_⟩
  exact ⟨by rw [decide_eq_false (fun e => by subst e; omega)], Chg.refl⟩
 refine CW.skip ?_
 refine hK2 _ _ ?_; try clear hK2
 refine CW.seq fun K6 hK6 => ?_
 refine CW.sr fun K7 hK7 => ?_
 refine WL.a rfl ?_
 refine WL.nil (hK7 _ _ ?_); try clear hK7
 refine CW.block ?_
 refine CW.loop (X := Nat) (fun x => [(0, .slice A m c), (1, .slice B n d), (5, .int .i64 (x : Int))]) (fun x w0 => x ≤ m ∧ xs.take x = ys.take x ∧ Ext w w0) (fun x => m - x) 0 Fr.ok ⟨Nat.zero_le _, rfl, Chg.refl⟩ ?_
 intro x w1 hl1
 obtain ⟨hi, htk, hL1⟩ := hl1
 refine CW.seq fun K8 hK8 => ?_
 refine CW.sr fun K9 hK9 => ?_
 refine WL.m rfl ?_
 refine WL.m rfl ?_
 refine WL.v (Y.len_slice Tryd.underlying25 rfl) ?_
 refine WL.v (Y.lss rfl rfl) ?_
 refine WL.nil (hK9 _ _ ?_); try clear hK9
 (first | refine cd_ rfl ?_ ?_ | refine ce_ rfl ?_ ?_ | refine cn_ rfl ?_ ?_ | refine cb_ rfl ?_ ?_) <;> intro ht10
 ·
  -- then
  refine CW.skip ?_
  refine hK8 _ _ ?_; try clear hK8
  refine CW.seq fun K11 hK11 => ?_
  refine CW.block ?_
  refine CW.seq fun K12 hK12 => ?_
  obtain ⟨a, ha⟩ : ∃ a, xs[x]? = some a := ⟨_, List.getElem?_eq_getElem om_⟩
  obtain ⟨b, hb⟩ : ∃ b, ys[x]? = some b := ⟨_, List.getElem?_eq_getElem om_⟩
  obtain ⟨aa, rfl, hma⟩ := hxs _ a ha
  obtain ⟨ab, rfl, hmb⟩ := hys _ b hb
  refine CW.quiet (fun wq => Ext w1 wq) kr_ kr_ Chg.drew ?_
  refine QL.m rfl ?_
  refine QL.m rfl ?_
  refine QL.v (fun wq hq => Y.indexAddrN Tryd.underlying25 rfl rfl sz0_apiDigest om_) ?_
  refine QL.v (fun wq hq => Y.load Tryd.underlying36 rfl ((hma.ext hL1).ext hq) (sz_apiDigest _) rfl) ?_
  refine QL.m rfl ?_
  refine QL.m rfl ?_
  refine QL.v (fun wq hq => Y.indexAddrN Tryd.underlying25 rfl rfl sz0_apiDigest om_) ?_
  refine QL.v (fun wq hq => Y.load Tryd.underlying36 rfl ((hmb.ext hL1).ext hq) (sz_apiDigest _) rfl) ?_
  refine QL.v (fun wq hq => Y.neq_apiDigest rfl rfl) ?_
  refine QL.nil fun w2 hx2 => ?_
  refine hK12 _ _ ?_; try clear hK12
  (first | refine cd_ rfl ?_ ?_ | refine ce_ rfl ?_ ?_ | refine cn_ rfl ?_ ?_ | refine cb_ rfl ?_ ?_) <;> intro ht13
  ·
   -- then
   refine CW.sr fun K14 hK14 => ?_
   refine WL.a rfl ?_
   refine WL.nil (hK14 _ _ ?_); try clear hK14
   refine CW.ret ⟨_, rfl, ?_⟩
   exact ⟨by rw [decide_eq_false (list_part ha hb (by assumption))], (hL1.thenExt hx2)⟩
  refine CW.skip ?_
  refine hK11 _ _ ?_; try clear hK11
  refine CW.region ?_
  refine WL.m rfl ?_
  refine WL.v (Y.add rfl rfl o2_) ?_
  refine WL.a rfl ?_
  refine WL.nil ?_
  refine ⟨x + 1, by omega, Fr.ok, by omega, take_more htk ha hb (by assumption), (hL1.thenExt hx2)⟩
 refine CW.exit ?_
 refine hK6 _ _ ?_; try clear hK6
 refine CW.sr fun K15 hK15 => ?_
 refine WL.a rfl ?_
 refine WL.nil (hK15 _ _ ?_); try clear hK15
 refine CW.ret ⟨_, rfl, ?_⟩
 exact ⟨by rw [decide_eq_true (list_whole om_ om_ htk)], hL1⟩
theorem rSame_any (u v : Value) (a b : ComD) (w : World) (hu : Com w u a) (hv : Com w v b) : Calls Tryd.prog 6 #[u, v] w (Ret fun r w' => r = .bool (sameB a b) ∧ Ext w w') := by
 obtain ⟨_, _, rfl, hpa, hoa, haa, hna⟩ := hu
 obtain ⟨_, _, rfl, hpb, hob, hab, hnb⟩ := hv
 have hpa0 := hpa
 have hpb0 := hpb
 obtain ⟨Ap, mp, cp, rfl, hmp, hmcp, hcmp, hxp⟩ := hpa
 obtain ⟨Ao, mo, co, rfl, hmo, hmco, hcmo, hxo⟩ := hoa
 obtain ⟨Bp, np, dp, rfl, hnp, hndp, hdmp, hyp⟩ := hpb
 obtain ⟨Bo, no, do_, rfl, hno, hndo, hdmo, hyo⟩ := hob
 unfold maxLen at hcmp hcmo hdmp hdmo
 refine calls_of_CW 53 [4] [(0, .agg (comC (.slice Ap mp cp) a.author a.note (.slice Ao mo co)).toArray), (1, .agg (comC (.slice Bp np dp) b.author b.note (.slice Bo no do_)).toArray)] Tryd.func6 rfl rfl rfl (by simp) args2 ?_
 refine CW.sr fun K1 hK1 => ?_
 refine WL.box rfl rfl de_ fun g2 w1 hx1 hg2 hB2 => ?_
 have hM2 := hB2.mem
 refine WL.box rfl rfl de_ fun g3 w2 hx2 hg3 hB3 => ?_
 have hM3 := hB3.mem; have hM2 := hM2.ext hx2
 refine WL.a rfl ?_
 refine WL.nil (hK1 _ _ ?_); try clear hK1
 refine CW.seq fun K2 hK2 => ?_
 refine CW.seq_testE 34 (¬ (a.parents = b.parents ∧ (a.author.toList == b.author.toList) = true ∧ (a.note.toList == b.note.toList) = true ∧ mo = no)) ?_ ?_
 ·
  refine CW.region ?_
  refine WL.v (Y.fieldAddr fo_apiCommit0 rfl) ?_
  refine WL.v (Y.load1 Tryd.underlying25 rfl hM2.com0 rfl) ?_
  refine WL.v (Y.fieldAddr fo_apiCommit0 rfl) ?_
  refine WL.v (Y.load1 Tryd.underlying25 rfl hM3.com0 rfl) ?_
  refine WL.call Tryd.func13 rfl rfl rfl ((rSameD_any _ _ _ _ _ (hpa0.ext (hx1.thenExt hx2)) (hpb0.ext (hx1.thenExt hx2)))) (by simp) ?_; rintro v w3 ⟨rfl, hx3⟩; have hM2 := hM2.ext hx3; have hM3 := hM3.ext hx3
  refine WL.v (Y.not rfl) ?_
  refine WL.m rfl ?_
  (first | refine WL.casesD (d := 12) rfl ?_ ?_ | refine WL.casesND (d := 12) rfl ?_ ?_ | refine WL.cases (d := 12) rfl ?_ ?_) <;> intro hg12
  ·
   -- t12 = T
   refine WL.o rfl rfl ?_
   refine WL.o rfl rfl ?_
   refine WL.o rfl rfl ?_
   refine WL.o rfl rfl ?_
   refine WL.o rfl rfl ?_
   refine WL.v (Y.pick rfl rfl) ?_
   refine WL.m rfl ?_
   refine WL.o rfl rfl ?_
   refine WL.o rfl rfl ?_
   refine WL.o rfl rfl ?_
   refine WL.o rfl rfl ?_
   refine WL.o rfl rfl ?_
   refine WL.v (Y.pick rfl rfl) ?_
   refine WL.m rfl ?_
   refine WL.o rfl rfl ?_
   refine WL.o rfl rfl ?_
   refine WL.o rfl rfl ?_
   refine WL.o rfl rfl ?_
   refine WL.o rfl rfl ?_
   refine WL.o rfl rfl ?_
   refine WL.o rfl rfl ?_
   refine WL.v (Y.pick rfl rfl) ?_
   refine WL.nil ⟨⟨_, rfl, ?_⟩, hx3, Fr.okp⟩
   exact tst_ok
  ·
   -- t12 = F
   refine WL.g rfl rfl (Y.fieldAddr fo_apiCommit1 rfl) ?_
   refine WL.g rfl rfl (Y.load1 Tryd.underlying9 rfl hM2.com1 rfl) ?_
   refine WL.g rfl rfl (Y.fieldAddr fo_apiCommit1 rfl) ?_
   refine WL.g rfl rfl (Y.load1 Tryd.underlying9 rfl hM3.com1 rfl) ?_
   refine WL.g rfl rfl (Y.neq_string rfl rfl) ?_
   refine WL.v (Y.pick rfl rfl) ?_
   refine WL.m rfl ?_
   (first | refine WL.casesD (d := 19) rfl ?_ ?_ | refine WL.casesND (d := 19) rfl ?_ ?_ | refine WL.cases (d := 19) rfl ?_ ?_) <;> intro hg19
   ·
    -- t19 = T
    refine WL.o rfl rfl ?_
    refine WL.o rfl rfl ?_
    refine WL.o rfl rfl ?_
    refine WL.o rfl rfl ?_
    refine WL.o rfl rfl ?_
    refine WL.v (Y.pick rfl rfl) ?_
    refine WL.m rfl ?_
    refine WL.o rfl rfl ?_
    refine WL.o rfl rfl ?_
    refine WL.o rfl rfl ?_
    refine WL.o rfl rfl ?_
    refine WL.o rfl rfl ?_
    refine WL.o rfl rfl ?_
    refine WL.o rfl rfl ?_
    refine WL.v (Y.pick rfl rfl) ?_
    refine WL.nil ⟨⟨_, rfl, ?_⟩, hx3, Fr.okp⟩
    exact tst_ok
   ·
    -- t19 = F
    refine WL.g rfl rfl (Y.fieldAddr fo_apiCommit2 rfl) ?_
    refine WL.g rfl rfl (Y.load1 Tryd.underlying9 rfl hM2.com2 rfl) ?_
    refine WL.g rfl rfl (Y.fieldAddr fo_apiCommit2 rfl) ?_
    refine WL.g rfl rfl (Y.load1 Tryd.underlying9 rfl hM3.com2 rfl) ?_
    refine WL.g rfl rfl (Y.neq_string rfl rfl) ?_
    refine WL.v (Y.pick rfl rfl) ?_
    refine WL.m rfl ?_
    (first | refine WL.casesD (d := 26) rfl ?_ ?_ | refine WL.casesND (d := 26) rfl ?_ ?_ | refine WL.cases (d := 26) rfl ?_ ?_) <;> intro hg26
    ·
     -- t26 = T
     refine WL.o rfl rfl ?_
     refine WL.o rfl rfl ?_
     refine WL.o rfl rfl ?_
     refine WL.o rfl rfl ?_
     refine WL.o rfl rfl ?_
     refine WL.o rfl rfl ?_
     refine WL.o rfl rfl ?_
     refine WL.v (Y.pick rfl rfl) ?_
     refine WL.nil ⟨⟨_, rfl, ?_⟩, hx3, Fr.okp⟩
     exact tst_ok
    ·
     -- t26 = F
     refine WL.g rfl rfl (Y.fieldAddr fo_apiCommit3 rfl) ?_
     refine WL.g rfl rfl (Y.load1 Tryd.underlying27 rfl hM2.com3 rfl) ?_
     refine WL.g rfl rfl (Y.len_slice Tryd.underlying27 rfl) ?_
     refine WL.g rfl rfl (Y.fieldAddr fo_apiCommit3 rfl) ?_
     refine WL.g rfl rfl (Y.load1 Tryd.underlying27 rfl hM3.com3 rfl) ?_
     refine WL.g rfl rfl (Y.len_slice Tryd.underlying27 rfl) ?_
     refine WL.g rfl rfl (Y.neq rfl rfl) ?_
     refine WL.v (Y.pick rfl rfl) ?_
     refine WL.nil ⟨⟨_, rfl, ?_⟩, hx3, Fr.okp⟩
     exact tst_ok
 intro w4 hx4; have hM2 := hM2.ext hx4; have hM3 := hM3.ext hx4
 (first | refine cd_ rfl ?_ ?_ | refine ce_ rfl ?_ ?_ | refine cn_ rfl ?_ ?_ | refine cb_ rfl ?_ ?_) <;> intro ht3
 ·
  -- then
  refine CW.sr fun K4 hK4 => ?_
  refine WL.a rfl ?_
  refine WL.nil (hK4 _ _ ?_); try clear hK4
  refine CW.ret ⟨_, rfl, ?_⟩
  refine ⟨?_, ((hx1.thenExt hx2).thenExt hx4)⟩
  have hq := ht3
  unfold sameB
  by_cases e1 : a.parents = b.parents <;> by_cases e2 : (a.author.toList == b.author.toList) = true <;> by_cases e3 : (a.note.toList == b.note.toList) = true <;> by_cases e4 : a.ops = b.ops <;> simp_all
 refine CW.skip ?_
 refine hK2 _ _ ?_; try clear hK2
 refine CW.seq fun K5 hK5 => ?_
 refine CW.sr fun K6 hK6 => ?_
 refine WL.a rfl ?_
 refine WL.nil (hK6 _ _ ?_); try clear hK6
 refine CW.block ?_
 refine CW.loop (X := Nat) (fun x => [(2, .pointer (some ⟨g2, 0, none⟩)), (3, .pointer (some ⟨g3, 0, none⟩)), (5, .int .i64 (x : Int))]) (fun x w0 => x ≤ mo ∧ a.ops.take x = b.ops.take x ∧ Ext w w0 ∧ Mem w0 ⟨g2, 0, none⟩ (comC (.slice Ap mp cp) a.author a.note (.slice Ao mo co)) ∧ Mem w0 ⟨g3, 0, none⟩ (comC (.slice Bp np dp) b.author b.note (.slice Bo no do_))) (fun x => mo - x) 0 Fr.ok ⟨Nat.zero_le _, rfl, ((hx1.thenExt hx2).thenExt hx4), hM2, hM3⟩ ?_
 intro x w5 hl5
 clear hM2 hM3
 obtain ⟨hi, htk, hL5, hM2, hM3⟩ := hl5
 refine CW.seq fun K7 hK7 => ?_
 refine CW.sr fun K8 hK8 => ?_
 refine WL.m rfl ?_
 refine WL.v (Y.fieldAddr fo_apiCommit3 rfl) ?_
 refine WL.v (Y.load1 Tryd.underlying27 rfl hM2.com3 rfl) ?_
 refine WL.v (Y.len_slice Tryd.underlying27 rfl) ?_
 refine WL.v (Y.lss rfl rfl) ?_
 refine WL.nil (hK8 _ _ ?_); try clear hK8
 (first | refine cd_ rfl ?_ ?_ | refine ce_ rfl ?_ ?_ | refine cn_ rfl ?_ ?_ | refine cb_ rfl ?_ ?_) <;> intro ht9
 ·
  -- then
  refine CW.skip ?_
  refine hK7 _ _ ?_; try clear hK7
  refine CW.seq fun K10 hK10 => ?_
  refine CW.block ?_
  refine CW.seq fun K11 hK11 => ?_
  obtain ⟨y, hy⟩ : ∃ y, a.ops[x]? = some y := ⟨_, List.getElem?_eq_getElem om_⟩
  obtain ⟨z, hz⟩ : ∃ z, b.ops[x]? = some z := ⟨_, List.getElem?_eq_getElem om_⟩
  obtain ⟨aa, rfl, hma⟩ := hxo _ y hy
  obtain ⟨ab, rfl, hmb⟩ := hyo _ z hz
  refine CW.quiet (fun wq => Ext w5 wq) kr_ kr_ Chg.drew ?_
  refine QL.v (fun wq hq => Y.fieldAddr fo_apiCommit3 rfl) ?_
  refine QL.v (fun wq hq => Y.load1 Tryd.underlying27 rfl (hM2.ext hq).com3 rfl) ?_
  refine QL.m rfl ?_
  refine QL.v (fun wq hq => Y.indexAddrN Tryd.underlying27 rfl rfl sz0_apiOp om_) ?_
  refine QL.v (fun wq hq => Y.load Tryd.underlying62 rfl ((hma.ext hL5).ext hq) (sz_apiOp _) rfl) ?_
  refine QL.v (fun wq hq => Y.fieldAddr fo_apiCommit3 rfl) ?_
  refine QL.v (fun wq hq => Y.load1 Tryd.underlying27 rfl (hM3.ext hq).com3 rfl) ?_
  refine QL.m rfl ?_
  refine QL.v (fun wq hq => Y.indexAddrN Tryd.underlying27 rfl rfl sz0_apiOp om_) ?_
  refine QL.v (fun wq hq => Y.load Tryd.underlying62 rfl ((hmb.ext hL5).ext hq) (sz_apiOp _) rfl) ?_
  refine QL.v (fun wq hq => Y.neq_apiOp rfl rfl) ?_
  refine QL.nil fun w6 hx6 => ?_
  have hM2 := hM2.ext hx6
  have hM3 := hM3.ext hx6
  refine hK11 _ _ ?_; try clear hK11
  (first | refine cd_ rfl ?_ ?_ | refine ce_ rfl ?_ ?_ | refine cn_ rfl ?_ ?_ | refine cb_ rfl ?_ ?_) <;> intro ht12
  ·
   -- then
   refine CW.sr fun K13 hK13 => ?_
   refine WL.a rfl ?_
   refine WL.nil (hK13 _ _ ?_); try clear hK13
   refine CW.ret ⟨_, rfl, ?_⟩
   exact ⟨by have := list_part hy hz (by assumption); unfold sameB; rw [decide_eq_false this, Bool.and_false], (hL5.thenExt hx6)⟩
  refine CW.skip ?_
  refine hK10 _ _ ?_; try clear hK10
  refine CW.region ?_
  refine WL.m rfl ?_
  refine WL.v (Y.add rfl rfl o2_) ?_
  refine WL.a rfl ?_
  refine WL.nil ?_
  refine ⟨x + 1, by omega, Fr.ok, by omega, take_more htk hy hz (by assumption), (hL5.thenExt hx6), hM2, hM3⟩
 refine CW.exit ?_
 refine hK5 _ _ ?_; try clear hK5
 refine CW.sr fun K14 hK14 => ?_
 refine WL.a rfl ?_
 refine WL.nil (hK14 _ _ ?_); try clear hK14
 refine CW.ret ⟨_, rfl, ?_⟩
 refine ⟨?_, hL5⟩
 have hops : a.ops = b.ops := list_whole om_ om_ htk
 unfold sameB
 simp_all
end Go.Proofs.YtmehkigmnpjcjaaDoor
/- Reading: wire.GetNum, wire.GetText, walked. No condition. -/
namespace Go.Proofs.YtmehkigmnpjcjaaDoor
open Go.RowKit Go.Fw Go.Pl
theorem drop_at {bs : List UInt8} {j : Nat} {b : UInt8} (h : bs[j]? = some b) : bs.drop j = b :: bs.drop (j + 1) := by
 obtain ⟨hj, rfl⟩ := List.getElem?_eq_some_iff.1 h
 exact List.drop_eq_getElem_cons hj
end Go.Proofs.YtmehkigmnpjcjaaDoor
