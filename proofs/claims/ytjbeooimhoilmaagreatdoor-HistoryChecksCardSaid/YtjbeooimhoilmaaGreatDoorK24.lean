/- Parts of a proof: what its last text leans on. No condition. -/
import Derived.Test.YtjbeooimhoilmaaGreatDoorK04
import Derived.Test.YtjbeooimhoilmaaGreatDoorK11
import Derived.Test.YtjbeooimhoilmaaGreatDoorK13
import Derived.Test.YtjbeooimhoilmaaGreatDoorK15
import Derived.Test.YtjbeooimhoilmaaGreatDoorK17
import Derived.Test.YtjbeooimhoilmaaGreatDoorK18
import Derived.Test.YtjbeooimhoilmaaGreatDoorK22
import Derived.Test.YtjbeooimhoilmaaGreatDoorK23
set_option linter.unusedSimpArgs false
set_option linter.unusedVariables false
/- The reference's Encode and ID, walked. No condition. -/
namespace Go.Proofs.YtjbeooimhoilmaaGreatDoor
open Go.RowKit Go.Fw Go.Pl
theorem rEncode_any (cv : Value) (cm : ComD) (w : World) (hc : Com w cv cm) : Calls Tryz.prog 47 #[cv] w (Ret fun v w' => v = .tuple #[.string (bs (if mayI cm = 0 then comB cm else [])), .int .i64 (mayI cm)] ∧ Ext w w') := by
 have hc0 := hc
 obtain ⟨_, _, rfl, ⟨Ap, mp, cp, rfl, hpl, hpc, hpm, hpx⟩, ⟨Ao, mo, co, rfl, hol, hoc, hom, hox⟩, hau, hno⟩ := hc0
 unfold maxLen at hpm hom hau hno
 refine calls_of_CW 62 [2, 3] [(0, .agg (comC (.slice Ap mp cp) cm.author cm.note (.slice Ao mo co)).toArray)] Tryz.func47 rfl rfl rfl (by simp) args1 ?_
 have hE : Ext w w := Chg.refl
 refine CW.sr fun K1 hK1 => ?_
 refine WL.box rfl rfl (by decide) fun g1 w1 hx1 hg1 hB1 => ?_
 have hlt1 := hB1.lt; have hz1 := hx1.size
 have hM1 := hB1.mem; have hz1 := hx1.size; have hE := hE.thenExt hx1
 refine WL.a rfl ?_
 refine WL.a rfl ?_
 refine WL.nil (hK1 _ _ ?_); try clear hK1 K1
 refine CW.sr fun K2 hK2 => ?_
 refine WL.v (Y.load Tryz.underlying48 rfl hB1.mem (sz_apiCommit _ _ _ _) rfl) ?_
 refine WL.call Tryz.func67 rfl rfl rfl ((rMay_any _ cm _ (hc.ext hx1))) (by simp) ?_; rintro v w2 ⟨rfl, hx2⟩; have hz2 := hx2.size; have hE := hE.thenExt hx2; have hB1 := hB1.ext hx2
 refine WL.a rfl ?_
 refine WL.nil (hK2 _ _ ?_); try clear hK2 K2
 refine CW.seq fun K3 hK3 => ?_
 refine CW.sr fun K4 hK4 => ?_
 refine WL.m rfl ?_
 refine WL.v (Y.neq rfl rfl) ?_
 refine WL.nil (hK4 _ _ ?_); try clear hK4 K4
 (first | refine CW.condD rfl ?_ ?_ | refine CW.condND rfl ?_ ?_ | refine CW.condN rfl ?_ ?_ | refine CW.cond rfl ?_ ?_) <;> intro ht5
 ·
  -- then
  refine CW.sr fun K6 hK6 => ?_
  refine WL.m rfl ?_
  refine WL.a rfl ?_
  refine WL.a rfl ?_
  refine WL.nil (hK6 _ _ ?_); try clear hK6 K6
  refine CW.ret ⟨_, rfl, ?_⟩
  exact ⟨by rw [if_neg (by assumption)]; rfl, hE⟩
 refine CW.skip ?_
 refine hK3 _ _ ?_; try clear hK3 K3
 refine CW.seq fun K7 hK7 => ?_
 have hmo := mayI_ok (Decidable.not_not.1 (by assumption))
 have hv9 := vi_len9 (n := mp) (by omega)
 have hpp := hmo.parents
 have hoo := hmo.ops
 refine CW.region ?_
 refine WL.v (Y.fieldAddr fo_apiCommit0 rfl) ?_
 refine WL.v (Y.load1 Tryz.underlying24 rfl hB1.mem.com0 rfl) ?_
 refine WL.v (Y.len_slice Tryz.underlying24 rfl) ?_
 refine WL.call Tryz.func68 rfl rfl rfl ((rNum_any mp _ (by omega))) (by simp) ?_; rintro v w3 ⟨rfl, hx3⟩; have hz3 := hx3.size; have hE := hE.thenExt hx3; have hB1 := hB1.ext hx3
 refine WL.a rfl ?_
 refine WL.nil (hK7 _ _ ?_); try clear hK7 K7
 refine CW.seq fun K8 hK8 => ?_
 refine CW.sr fun K9 hK9 => ?_
 refine WL.a rfl ?_
 refine WL.nil (hK9 _ _ ?_); try clear hK9 K9
 refine CW.block ?_
 refine CW.loop (X := Nat) (fun x => [(1, .pointer (some ⟨g1, 0, none⟩)), (5, .string (bs (vi mp ++ ((cm.parents.take x).map (·.1)).flatten))), (6, .int .i64 (x : Int))]) (fun x w0 => x ≤ mp ∧ Ext w w0 ∧ Blk w0 g1 48 (comC (.slice Ap mp cp) cm.author cm.note (.slice Ao mo co))) (fun x => mp - x) 0 (Fr.le.cons rfl (Fr.le.cons (by rw [List.take_zero, List.map_nil, List.flatten_nil, List.append_nil]; rfl) (Fr.le.cons rfl Fr.le.nil))) ⟨Nat.zero_le _, hE, hB1⟩ ?_
 intro x w4 hl4
 clear hE hB1 hM1
 obtain ⟨hx, hE, hB1⟩ := hl4
 have hM1 := hB1.mem
 have hfl : ((cm.parents.take x).map (·.1)).flatten.length ≤ (cm.parents.take x).length * 32 := flat_len (fun y _ => Nat.le_of_eq y.2)
 have htl : (cm.parents.take x).length ≤ 8 := by rw [List.length_take]; omega
 refine CW.seq fun K10 hK10 => ?_
 refine CW.sr fun K11 hK11 => ?_
 refine WL.m rfl ?_
 refine WL.v (Y.fieldAddr fo_apiCommit0 rfl) ?_
 refine WL.v (Y.load1 Tryz.underlying24 rfl hB1.mem.com0 rfl) ?_
 refine WL.v (Y.len_slice Tryz.underlying24 rfl) ?_
 refine WL.v (Y.lss rfl rfl) ?_
 refine WL.nil (hK11 _ _ ?_); try clear hK11 K11
 (first | refine CW.condD rfl ?_ ?_ | refine CW.condND rfl ?_ ?_ | refine CW.condN rfl ?_ ?_ | refine CW.cond rfl ?_ ?_) <;> intro ht12
 ·
  -- then
  refine CW.skip ?_
  refine hK10 _ _ ?_; try clear hK10 K10
  refine CW.seq fun K13 hK13 => ?_
  refine CW.block ?_
  refine CW.region ?_
  refine WL.m rfl ?_
  refine WL.v (Y.fieldAddr fo_apiCommit0 rfl) ?_
  refine WL.v (Y.load1 Tryz.underlying24 rfl hB1.mem.com0 rfl) ?_
  refine WL.m rfl ?_
  obtain ⟨d, hd⟩ : ∃ d, cm.parents[x]? = some d := ⟨_, List.getElem?_eq_getElem (by omega)⟩
  obtain ⟨ad, rfl, hmd⟩ := hpx _ d hd
  have hd2 := d.2
  refine WL.v (Y.indexAddrN Tryz.underlying24 rfl rfl sz0_apiDigest (by omega)) ?_
  refine WL.v (Y.load Tryz.underlying43 rfl (hmd.ext hE) (sz_apiDigest _) rfl) ?_
  refine WL.call Tryz.func69 rfl rfl rfl (rBytes_any _ _) (by simp) ?_; rintro v w5 ⟨rfl, hx5⟩; have hz5 := hx5.size; have hE := hE.thenExt hx5; have hB1 := hB1.ext hx5
  refine WL.v (Y.addS rfl rfl (by simp only [ByteArray.size_append, bs_size, List.length_append]; omega)) ?_
  refine WL.a rfl ?_
  refine WL.nil (hK13 _ _ ?_); try clear hK13 K13
  refine CW.region ?_
  refine WL.m rfl ?_
  refine WL.v (Y.add rfl rfl ⟨by omega, by omega⟩) ?_
  refine WL.a rfl ?_
  refine WL.nil ?_
  refine ⟨x + 1, by omega, Fr.le.cons rfl (Fr.le.cons (by rw [bs_append, flat_take_succ hd, ← List.append_assoc]; rfl) (Fr.le.cons rfl Fr.le.nil)), by omega, hE, hB1⟩
 refine CW.exit ?_
 refine hK8 _ _ ?_; try clear hK8 K8
 refine CW.seq fun K14 hK14 => ?_
 have hna := hmo.name
 have hnn := hmo.note
 have hta : (textB cm.author.toList).length ≤ 33 := by have := vi_len9 (n := cm.author.size) (by omega); rw [textB, List.length_append, toList_length]; omega
 have htn : (textB cm.note.toList).length ≤ 209 := by have := vi_len9 (n := cm.note.size) (by omega); rw [textB, List.length_append, toList_length]; omega
 have hvo := vi_len9 (n := mo) (by omega)
 obtain ⟨pre, hpre⟩ : ∃ p, p = vi mp ++ ((cm.parents.take x).map (·.1)).flatten ++ textB cm.author.toList ++ textB cm.note.toList ++ vi mo := ⟨_, rfl⟩
 have hpre2 := hpre
 rw [List.take_of_length_le (by omega)] at hpre2
 have hpl6 : pre.length ≤ 600 := by rw [hpre]; simp only [List.length_append]; omega
 refine CW.quiet (fun wq => Ext w4 wq) (by kernel_rfl) (by kernel_rfl) Chg.drew ?_
 refine QL.m rfl ?_
 refine QL.v (fun wq hq => Y.fieldAddr fo_apiCommit1 rfl) ?_
 refine QL.v (fun wq hq => Y.load1 Tryz.underlying9 rfl (hB1.ext hq).mem.com1 rfl) ?_
 refine QL.call Tryz.func70 rfl rfl rfl (fun wq hq => ret_ext (rText_any _ _ (by omega)) hq) (by simp) ?_
 refine QL.v (fun wq hq => Y.addS rfl rfl (by simp only [ByteArray.size_append, bs_size, List.length_append]; omega)) ?_
 refine QL.v (fun wq hq => Y.fieldAddr fo_apiCommit2 rfl) ?_
 refine QL.v (fun wq hq => Y.load1 Tryz.underlying9 rfl (hB1.ext hq).mem.com2 rfl) ?_
 refine QL.call Tryz.func70 rfl rfl rfl (fun wq hq => ret_ext (rText_any _ _ (by omega)) hq) (by simp) ?_
 refine QL.v (fun wq hq => Y.addS rfl rfl (by simp only [ByteArray.size_append, bs_size, List.length_append]; omega)) ?_
 refine QL.v (fun wq hq => Y.fieldAddr fo_apiCommit3 rfl) ?_
 refine QL.v (fun wq hq => Y.load1 Tryz.underlying46 rfl (hB1.ext hq).mem.com3 rfl) ?_
 refine QL.v (fun wq hq => Y.len_slice Tryz.underlying46 rfl) ?_
 refine QL.call Tryz.func68 rfl rfl rfl (fun wq hq => ret_ext (rNum_any mo _ (by omega)) hq) (by simp) ?_
 refine QL.v (fun wq hq => Y.addS rfl rfl (by simp only [ByteArray.size_append, bs_size, List.length_append]; omega)) ?_
 refine QL.a rfl ?_
 refine QL.nil fun w6 hx6 => ?_
 have hz6 := hx6.size
 have hE := hE.thenExt hx6
 have hB1 := hB1.ext hx6
 refine hK14 _ _ ?_; try clear hK14 K14
 refine CW.seq fun K15 hK15 => ?_
 refine CW.sr fun K16 hK16 => ?_
 refine WL.a rfl ?_
 refine WL.nil (hK16 _ _ ?_); try clear hK16 K16
 refine CW.block ?_
 refine CW.loop (X := Nat) (fun x => [(1, .pointer (some ⟨g1, 0, none⟩)), (5, .string (bs (pre ++ ((cm.ops.take x).map opB).flatten))), (7, .int .i64 (x : Int))]) (fun x w0 => x ≤ mo ∧ Ext w w0 ∧ Blk w0 g1 48 (comC (.slice Ap mp cp) cm.author cm.note (.slice Ao mo co))) (fun x => mo - x) 0 (Fr.le.cons rfl (Fr.le.cons (by rw [List.take_zero, List.map_nil, List.flatten_nil, List.append_nil, hpre]; simp only [← bs_append]; rfl) (Fr.le.cons rfl Fr.le.nil))) ⟨Nat.zero_le _, hE, hB1⟩ ?_
 intro x w7 hl7
 clear hE hB1 hM1 hpre
 obtain ⟨hx2, hE, hB1⟩ := hl7
 have hM1 := hB1.mem
 have hfl2 : ((cm.ops.take x).map opB).flatten.length ≤ (cm.ops.take x).length * 51 := flat_len (fun x hx => opB_len (by have := hmo.n (List.mem_of_mem_take hx); omega))
 have htl2 : (cm.ops.take x).length ≤ 2000 := by rw [List.length_take]; omega
 refine CW.seq fun K17 hK17 => ?_
 refine CW.sr fun K18 hK18 => ?_
 refine WL.m rfl ?_
 refine WL.v (Y.fieldAddr fo_apiCommit3 rfl) ?_
 refine WL.v (Y.load1 Tryz.underlying46 rfl hB1.mem.com3 rfl) ?_
 refine WL.v (Y.len_slice Tryz.underlying46 rfl) ?_
 refine WL.v (Y.lss rfl rfl) ?_
 refine WL.nil (hK18 _ _ ?_); try clear hK18 K18
 (first | refine CW.condD rfl ?_ ?_ | refine CW.condND rfl ?_ ?_ | refine CW.condN rfl ?_ ?_ | refine CW.cond rfl ?_ ?_) <;> intro ht19
 ·
  -- then
  refine CW.skip ?_
  refine hK17 _ _ ?_; try clear hK17 K17
  refine CW.seq fun K20 hK20 => ?_
  refine CW.block ?_
  refine CW.region ?_
  refine WL.m rfl ?_
  refine WL.v (Y.fieldAddr fo_apiCommit3 rfl) ?_
  refine WL.v (Y.load1 Tryz.underlying46 rfl hB1.mem.com3 rfl) ?_
  refine WL.m rfl ?_
  obtain ⟨y, hy⟩ : ∃ y, cm.ops[x]? = some y := ⟨_, List.getElem?_eq_getElem (by omega)⟩
  obtain ⟨ad, rfl, hmd⟩ := hox _ y hy
  have hy51 := opB_len (x := y) (by have := hmo.n (List.mem_of_getElem? hy); omega)
  refine WL.v (Y.indexAddrN Tryz.underlying46 rfl rfl sz0_apiOp (by omega)) ?_
  refine WL.v (Y.load Tryz.underlying70 rfl (hmd.ext hE) (sz_apiOp _) rfl) ?_
  refine WL.call Tryz.func71 rfl rfl rfl (rOp_any y _ (rightX_zero (hmo.right' hy)).1 (hmo.n (List.mem_of_getElem? hy))) (by simp) ?_; rintro v w8 ⟨rfl, hx8⟩; have hz8 := hx8.size; have hE := hE.thenExt hx8; have hB1 := hB1.ext hx8
  refine WL.v (Y.addS rfl rfl (by simp only [ByteArray.size_append, bs_size, List.length_append]; omega)) ?_
  refine WL.a rfl ?_
  refine WL.nil (hK20 _ _ ?_); try clear hK20 K20
  refine CW.region ?_
  refine WL.m rfl ?_
  refine WL.v (Y.add rfl rfl ⟨by omega, by omega⟩) ?_
  refine WL.a rfl ?_
  refine WL.nil ?_
  refine ⟨x + 1, by omega, Fr.le.cons rfl (Fr.le.cons (by rw [bs_append, flat_take_succ hy, ← List.append_assoc]; rfl) (Fr.le.cons rfl Fr.le.nil)), by omega, hE, hB1⟩
 refine CW.exit ?_
 refine hK15 _ _ ?_; try clear hK15 K15
 refine CW.sr fun K21 hK21 => ?_
 refine WL.m rfl ?_
 refine WL.a rfl ?_
 refine WL.a rfl ?_
 refine WL.nil (hK21 _ _ ?_); try clear hK21 K21
 refine CW.ret ⟨_, rfl, ?_⟩
 have h0 := mayOk_i hmo
 refine ⟨?_, hE⟩
 rw [h0, if_pos rfl, comB, hpl, hol, List.take_of_length_le (by omega), hpre2]
theorem rId_any (u : Value) (c : ComD) (w : World) (hc : Com w u c) : Calls Tryz.prog 27 #[u] w (Ret fun v w' => v = .tuple #[digV (idD c), .int .i64 (mayI c)] ∧ Ext w w') := by
 have hc0 := hc
 obtain ⟨pv, ov, rfl, _⟩ := hc
 obtain ⟨id, hid, hzd, _⟩ := info_apiDigest
 refine calls_of_CWct 18 2 32 [3] [(0, .agg (comC pv c.author c.note ov).toArray)] Tryz.func27 rfl rfl rfl Tryz.underlying43 rfl (by kernel_rfl) (by simp) args1 ?_
 have hE : Ext w w := Chg.refl
 refine CW.sr fun K1 hK1 => ?_
 refine WL.box rfl rfl (by decide) fun g1 w1 hx1 hg1 hB1 => ?_
 have hlt1 := hB1.lt; have hz1 := hx1.size
 have hM1 := hB1.mem; have hz1 := hx1.size; have hE := hE.thenExt hx1
 refine WL.alloc (hid) (hzd) rfl (by decide) fun g2 w2 hx2 hg2 hB2 => ?_
 have hlt2 := hB2.lt; have hz2 := hx2.size
 have hM2 := hB2.mem; have hz2 := hx2.size; have hE := hE.thenExt hx2; have hB1 := hB1.ext hx2
 refine WL.a rfl ?_
 refine WL.nil (hK1 _ _ ?_); try clear hK1 K1
 refine CW.sr fun K2 hK2 => ?_
 refine WL.v (Y.load Tryz.underlying48 rfl hB1.mem (sz_apiCommit _ _ _ _) rfl) ?_
 refine WL.call Tryz.func47 rfl rfl rfl (rEncode_any _ c _ (hc0.ext hE)) (by simp) ?_; rintro v w3 ⟨rfl, hx3⟩; have hz3 := hx3.size; have hE := hE.thenExt hx3; have hB1 := hB1.ext hx3; have hB2 := hB2.ext hx3
 refine WL.m rfl ?_
 refine WL.v (Y.extract rfl rfl) ?_
 refine WL.v (Y.extract rfl rfl) ?_
 refine WL.a rfl ?_
 refine WL.a rfl ?_
 refine WL.nil (hK2 _ _ ?_); try clear hK2 K2
 refine CW.seq fun K3 hK3 => ?_
 refine CW.sr fun K4 hK4 => ?_
 refine WL.m rfl ?_
 refine WL.v (Y.neq rfl rfl) ?_
 refine WL.nil (hK4 _ _ ?_); try clear hK4 K4
 (first | refine CW.condD rfl ?_ ?_ | refine CW.condND rfl ?_ ?_ | refine CW.condN rfl ?_ ?_ | refine CW.cond rfl ?_ ?_) <;> intro ht5
 ·
  -- then
  refine CW.sr fun K6 hK6 => ?_
  refine WL.v (Y.build0 (build_apiDigest _)) ?_
  refine WL.m rfl ?_
  refine WL.store (g := g2) (pre := []) (old := digC Dig.zero) (post := []) (new := digC Dig.zero) rfl rfl rfl rfl (sz_apiDigest _) (by simpa using hB2) (by first | rfl | (simp [digC_length, opC_length]; done) | (simp only [digC_length, opC_length]; omega)) (one_digC) (fun w4 hc4 hB4_ => ?_)
  have hz4 := hc4.size; have hE := hE.step hc4 (fun k h => by omega); have hB1 := hB1.chg hc4 (fun h => by omega)
  have hB2 : Blk w4 g2 TDi (digC Dig.zero) := by simpa using hB4_
  refine WL.a rfl ?_
  refine WL.nil (hK6 _ _ ?_); try clear hK6 K6
  refine CW.ret ?_
  exact ⟨_, _, _, rfl, hB2.mem, digC_length _, rfl, by rw [show idD c = Dig.zero from if_neg (by assumption)]; rfl, hE⟩
 refine CW.skip ?_
 refine hK3 _ _ ?_; try clear hK3 K3
 refine CW.sr fun K7 hK7 => ?_
 refine WL.m rfl ?_
 refine WL.st (St.strBytes Tryz.underlying9 Tryz.underlying91 Tryz.underlying5 rfl (by rw [bs_size, if_pos (by omega)]; have := comB_len (c := c) (by omega); omega)) (by decide) fun v16 w5 hR5 => ?_
 obtain ⟨hO16, hx5, hf16⟩ := hR5
 have hz5 := hx5.size
 have hE := hE.thenExt hx5
 have hB1 := hB1.ext hx5
 have hB2 := hB2.ext hx5
 rw [bs_toList] at hO16
 refine WL.call Tryz.func48 rfl rfl rfl (rSum_any _ _ _ hO16.by (by rw [if_pos (by omega)]; have := comB_len (c := c) (by omega); omega)) (by simp) ?_; rintro v w6 ⟨rfl, hx6⟩; have hz6 := hx6.size; have hE := hE.thenExt hx6; have hB1 := hB1.ext hx6; have hB2 := hB2.ext hx6
 refine WL.store (g := g2) (pre := []) (old := digC Dig.zero) (post := []) (new := digC (shaD (if mayI c = 0 then comB c else []))) rfl rfl rfl rfl (sz_apiDigest _) (by simpa using hB2) (by first | rfl | (simp [digC_length, opC_length]; done) | (simp only [digC_length, opC_length]; omega)) (one_digC) (fun w7 hc7 hB7_ => ?_)
 have hz7 := hc7.size; have hE := hE.step hc7 (fun k h => by omega); have hB1 := hB1.chg hc7 (fun h => by omega)
 have hm0 : mayI c = 0 := by omega
 have hB2 : Blk w7 g2 TDi (digC (idD c)) := by rw [idD, if_pos hm0]; rw [if_pos hm0] at hB7_; simpa using hB7_
 refine WL.a rfl ?_
 refine WL.nil (hK7 _ _ ?_); try clear hK7 K7
 refine CW.ret ?_
 exact ⟨_, _, _, rfl, hB2.mem, digC_length _, rfl, by rw [hm0], hE⟩
end Go.Proofs.YtjbeooimhoilmaaGreatDoor
/- The reference's finds and wrong of histories, walked. No condition. -/
namespace Go.Proofs.YtjbeooimhoilmaaGreatDoor
open Go.RowKit Go.Fw Go.Pl Go.Sort Go.Fu
theorem fnd_above {P : List ComD} (hk : HOk P) (hl : P.length ≤ 200) {ids : List Dig} (hin : ∀ d ∈ ids, d ∈ idsH P) {r : RefD} : fndB P ids r = true ↔ (r.c ∈ aboveL (ndsH P) ids ∧ r.n ≤ ((opsAt P r.c).length : Int)) ∧ kindAt (opsAt P r.c) (r.n - 1).toNat = 1 := by
 have hn := hk.nodes hl
 have hin' : ∀ d ∈ ids, d ∈ idsL (ndsH P) := fun d hd => by rw [ids_nds]; exact hin d hd
 rw [above_mem hn hin']
 simp only [fndB, Bool.and_eq_true, decide_eq_true_eq]
 constructor
 ·
  rintro ⟨⟨⟨h1, h2⟩, h3⟩, h4⟩
  exact ⟨⟨(markF_bit hn hin' (by rw [ids_nds]; exact h1)).1 h2, h3⟩, h4⟩
 ·
  rintro ⟨⟨hu, h3⟩, h4⟩
  have h1 : r.c ∈ idsH P := by
   have := under_ids hn hin' hu
   rwa [ids_nds] at this
  exact ⟨⟨⟨h1, (markF_bit hn hin' (by rw [ids_nds]; exact h1)).2 hu⟩, h3⟩, h4⟩
theorem above_ids {P : List ComD} (hk : HOk P) (hl : P.length ≤ 200) {ids : List Dig} (hin : ∀ d ∈ ids, d ∈ idsH P) {d : Dig} (h : d ∈ aboveL (ndsH P) ids) : d ∈ idsH P := by
 have hn := hk.nodes hl
 have hin' : ∀ d ∈ ids, d ∈ idsL (ndsH P) := fun d hd => by rw [ids_nds]; exact hin d hd
 have := under_ids hn hin' ((above_mem hn hin').1 h)
 rwa [ids_nds] at this
theorem findI_lk {ids : List Dig} {d : Dig} (h : d ∈ ids) : findI ids d = (lkN ids d : Int) := by rw [findI, if_pos h, lkN, if_pos h]
theorem rFindH_any (u : Value) (ys : List NdV) (P : List ComD) (d : Dig) (w : World) (hN : Nds w u ys) (his : ndsL ys = ndsH P) : Calls Tryz.prog 41 #[u, digV d] w (Ret fun v w' => v = .int .i64 (findI (idsH P) d) ∧ Ext w w') := by
 have := rFind_any u ys d w hN
 rwa [his, ids_nds] at this
theorem rAboveH_any (u v0 : Value) (ys : List NdV) (P : List ComD) (ids : List Dig) (w : World) (hN : Nds w u ys) (his : ndsL ys = ndsH P) (hk : HOk P) (hl : P.length ≤ 200) (hd : Sl w digC 32 v0 ids) (hin : ∀ d ∈ ids, d ∈ idsH P) : Calls Tryz.prog 31 #[u, v0] w (Ret fun v w' => Own w' TDg 32 v (flatD (aboveL (ndsH P) ids)) ∧ (∀ k, v.ownBlock = some k → w.heap.size ≤ k) ∧ Ext w w') := by
 have := rAbove_any u v0 ys ids w hN (by rw [his]; exact hk.nodes hl) hd (fun d hd => by rw [his, ids_nds]; exact hin d hd)
 rwa [his] at this
theorem fnd_eq {P : List ComD} (hk : HOk P) (hl : P.length ≤ 200) {ids : List Dig} (hin : ∀ d ∈ ids, d ∈ idsH P) {r : RefD} : fndB P ids r = (decide (r.c ∈ aboveL (ndsH P) ids) && decide (r.n ≤ ((opsAt P r.c).length : Int)) && decide (kindAt (opsAt P r.c) (r.n - 1).toNat = 1)) := by
 rw [Bool.eq_iff_iff, fnd_above hk hl hin]
 simp only [Bool.and_eq_true, decide_eq_true_eq]
theorem rw9_t {f : Bool} {p : Prop} (h : p) : (!f) = true ↔ p ∧ f = false := by cases f <;> simp [h]
theorem rw9_f {f : Bool} {p : Prop} (h : ¬ p) : false = true ↔ p ∧ f = false := by simp [h]
theorem findI_ge {ids : List Dig} {d : Dig} : 0 ≤ findI ids d ↔ d ∈ ids := by
 unfold findI
 split
 ·
  rename_i h
  exact ⟨fun _ => h, fun _ => by omega⟩
 ·
  rename_i h
  exact ⟨fun h2 => by omega, fun h2 => absurd h2 h⟩
set_option maxRecDepth 100000 in
theorem rfinds_any (u v0 v1 : Value) (ys : List NdV) (P : List ComD) (ids : List Dig) (l : List CoV) (rr : RefD) (w : World) (hN : Nds w v0 ys) (his : ndsL ys = ndsH P) (hk : HOk P) (hlp : P.length ≤ 200) (hl : Hcs w u l) (hPl : P = (csL l).take P.length) (hA : Sl w digC 32 v1 (aboveL (ndsH P) ids)) (hin : ∀ d ∈ ids, d ∈ idsH P) (hn : 1 ≤ rr.n ∧ rr.n ≤ 2000) : Calls Tryz.prog 46 #[u, v0, v1, refV rr] w (Ret fun v w' => v = .bool (fndB P ids rr) ∧ Ext w w') := by
 obtain ⟨A2, m2, c2, rfl, hlm, hmc, hcm, hlg⟩ := id hl.sl
 unfold maxLen at hcm
 obtain ⟨x, a2, a3, hfd⟩ := finds_at hl hPl (markF (ndsH P) ids) (by rw [markF_length, List.length_map]) rr.c
 refine calls_of_CW 43 [8] [(0, .slice A2 m2 c2), (1, v0), (2, v1), (3, refV rr)] Tryz.func46 rfl rfl rfl (by simp) args4 ?_
 have hE : Ext w w := Chg.refl
 refine CW.sr fun K1 hK1 => ?_
 refine WL.box rfl rfl (by decide) fun g7 w1 hx1 hg7 hB7 => ?_
 have hlt7 := hB7.lt; have hz1 := hx1.size
 have hM7 := hB7.mem; have hz1 := hx1.size; have hE := hE.thenExt hx1
 refine WL.a rfl ?_
 refine WL.nil (hK1 _ _ ?_); try clear hK1 K1
 refine CW.sr fun K2 hK2 => ?_
 refine WL.m rfl ?_
 refine WL.v (Y.fieldAddr fo_apiRef1 rfl) ?_
 refine WL.v (Y.load Tryz.underlying43 rfl hB7.mem.ref1 (sz_apiDigest _) rfl) ?_
 refine WL.call Tryz.func41 rfl rfl rfl (rFindH_any _ ys P rr.c _ (hN.ext hE) his) (by simp) ?_; rintro v w2 ⟨rfl, hx2⟩; have hz2 := hx2.size; have hE := hE.thenExt hx2; have hB7 := hB7.ext hx2
 refine WL.a rfl ?_
 refine WL.nil (hK2 _ _ ?_); try clear hK2 K2
 refine CW.seq fun K3 hK3 => ?_
 refine CW.quiet (fun wq => Ext w2 wq) (by kernel_rfl) (by kernel_rfl) Chg.drew ?_
 refine QL.m rfl ?_
 refine QL.v (fun wq hq => Y.fieldAddr fo_apiRef1 rfl) ?_
 refine QL.v (fun wq hq => Y.load Tryz.underlying43 rfl (hB7.ext hq).mem.ref1 (sz_apiDigest _) rfl) ?_
 refine QL.call Tryz.func33 rfl rfl rfl (fun wq hq => ret_ext (rIn_any _ (aboveL (ndsH P) ids) rr.c _ ((hA.ext hE).ext hq)) hq) (by simp) ?_
 refine QL.m rfl ?_
 (first | refine QL.casesD (d := 18) rfl ?_ ?_ | refine QL.casesND (d := 18) rfl ?_ ?_ | refine QL.cases (d := 18) rfl ?_ ?_) <;> intro hg18
 ·
  -- t18 = T
  have hmem := above_ids hk hlp hin hg18
  obtain ⟨rfl, hmx, hlk, hops, hU, hos, _⟩ := hfd hmem
  obtain ⟨xc, xA, xca, xB, xcb⟩ := x
  dsimp only at hmx hops hos
  rw [findI_lk hmem]
  refine QL.g rfl rfl (fun wq hq => Y.fieldAddr fo_apiRef2 rfl) ?_
  refine QL.g rfl rfl (fun wq hq => Y.load1 Tryz.underlying3 rfl (hB7.ext hq).mem.ref2 rfl) ?_
  refine QL.g rfl rfl (fun wq hq => Y.move rfl) ?_
  refine QL.g rfl rfl (fun wq hq => Y.move rfl) ?_
  refine QL.g rfl rfl (fun wq hq => Y.indexAddrN Tryz.underlying22 rfl rfl sz0_apiCommit hlk) ?_
  refine QL.g rfl rfl (fun wq hq => Y.fieldAddr fo_apiCommit3 rfl) ?_
  refine QL.g rfl rfl (fun wq hq => Y.load1 Tryz.underlying46 rfl (show wq.cell? _ = some (.slice xB xc.ops.length xcb) from (hmx.ext (hE.thenExt hq)).com3) rfl) ?_
  refine QL.g rfl rfl (fun wq hq => Y.len_slice Tryz.underlying46 rfl) ?_
  refine QL.g rfl rfl (fun wq hq => Y.leq rfl rfl) ?_
  refine QL.v (fun wq hq => Y.pick rfl rfl) ?_
  refine QL.m rfl ?_
  (first | refine QL.casesD (d := 29) rfl ?_ ?_ | refine QL.casesND (d := 29) rfl ?_ ?_ | refine QL.cases (d := 29) rfl ?_ ?_) <;> intro hg29
  ·
   -- t29 = T
   obtain ⟨o, ho⟩ : ∃ o, xc.ops[(rr.n - 1).toNat]? = some o := ⟨_, List.getElem?_eq_getElem (by omega)⟩
   obtain ⟨a4, rfl, hmo⟩ := hos.at ho
   refine QL.g rfl rfl (fun wq hq => Y.move rfl) ?_
   refine QL.g rfl rfl (fun wq hq => Y.move rfl) ?_
   refine QL.g rfl rfl (fun wq hq => Y.indexAddrN Tryz.underlying22 rfl rfl sz0_apiCommit hlk) ?_
   refine QL.g rfl rfl (fun wq hq => Y.fieldAddr fo_apiCommit3 rfl) ?_
   refine QL.g rfl rfl (fun wq hq => Y.load1 Tryz.underlying46 rfl (show wq.cell? _ = some (.slice (some a4) xc.ops.length xcb) from (hmx.ext (hE.thenExt hq)).com3) rfl) ?_
   refine QL.g rfl rfl (fun wq hq => Y.fieldAddr fo_apiRef2 rfl) ?_
   refine QL.g rfl rfl (fun wq hq => Y.load1 Tryz.underlying3 rfl (hB7.ext hq).mem.ref2 rfl) ?_
   refine QL.g rfl rfl (fun wq hq => Y.subT rfl rfl hn.1 (by omega)) ?_
   refine QL.g rfl rfl (fun wq hq => Y.indexAddrN Tryz.underlying46 rfl rfl sz0_apiOp (by omega)) ?_
   refine QL.g rfl rfl (fun wq hq => Y.fieldAddr fo_apiOp0 rfl) ?_
   refine QL.g rfl rfl (fun wq hq => Y.load1 Tryz.underlying3 rfl (hmo.ext (hE.thenExt hq)).op0 rfl) ?_
   refine QL.g rfl rfl (fun wq hq => Y.eql rfl rfl) ?_
   refine QL.v (fun wq hq => Y.pick rfl rfl) ?_
   refine QL.a rfl ?_
   refine QL.nil fun w3 hx3 => ?_
   have hz3 := hx3.size
   have hE := hE.thenExt hx3
   have hB7 := hB7.ext hx3
   refine hK3 _ _ ?_; try clear hK3 K3
   refine CW.ret ⟨_, rfl, ?_⟩
   exact ⟨by rw [fnd_eq hk hlp hin, decide_eq_true hg18, ← hops, decide_eq_true hg29, kindAt, ho]; rfl, hE⟩
  ·
   -- t29 = F
   refine QL.o rfl rfl ?_
   refine QL.o rfl rfl ?_
   refine QL.o rfl rfl ?_
   refine QL.o rfl rfl ?_
   refine QL.o rfl rfl ?_
   refine QL.o rfl rfl ?_
   refine QL.o rfl rfl ?_
   refine QL.o rfl rfl ?_
   refine QL.o rfl rfl ?_
   refine QL.o rfl rfl ?_
   refine QL.o rfl rfl ?_
   refine QL.o rfl rfl ?_
   refine QL.v (fun wq hq => Y.pick rfl rfl) ?_
   refine QL.a rfl ?_
   refine QL.nil fun w4 hx4 => ?_
   have hz4 := hx4.size
   have hE := hE.thenExt hx4
   have hB7 := hB7.ext hx4
   refine hK3 _ _ ?_; try clear hK3 K3
   refine CW.ret ⟨_, rfl, ?_⟩
   exact ⟨by rw [fnd_eq hk hlp hin, decide_eq_true hg18, ← hops, decide_eq_false hg29]; rfl, hE⟩
 ·
  -- t18 = F
  refine QL.o rfl rfl ?_
  refine QL.o rfl rfl ?_
  refine QL.o rfl rfl ?_
  refine QL.o rfl rfl ?_
  refine QL.o rfl rfl ?_
  refine QL.o rfl rfl ?_
  refine QL.o rfl rfl ?_
  refine QL.o rfl rfl ?_
  refine QL.o rfl rfl ?_
  refine QL.v (fun wq hq => Y.pick rfl rfl) ?_
  refine QL.m rfl ?_
  refine QL.o rfl rfl ?_
  refine QL.o rfl rfl ?_
  refine QL.o rfl rfl ?_
  refine QL.o rfl rfl ?_
  refine QL.o rfl rfl ?_
  refine QL.o rfl rfl ?_
  refine QL.o rfl rfl ?_
  refine QL.o rfl rfl ?_
  refine QL.o rfl rfl ?_
  refine QL.o rfl rfl ?_
  refine QL.o rfl rfl ?_
  refine QL.o rfl rfl ?_
  refine QL.v (fun wq hq => Y.pick rfl rfl) ?_
  refine QL.a rfl ?_
  refine QL.nil fun w5 hx5 => ?_
  have hz5 := hx5.size
  have hE := hE.thenExt hx5
  have hB7 := hB7.ext hx5
  refine hK3 _ _ ?_; try clear hK3 K3
  refine CW.ret ⟨_, rfl, ?_⟩
  exact ⟨by rw [fnd_eq hk hlp hin, decide_eq_false hg18]; rfl, hE⟩
set_option maxRecDepth 100000 in
set_option maxHeartbeats 4000000 in
theorem rwrong9_any (u v0 : Value) (ys : List NdV) (P : List ComD) (l : List CoV) (cx : CoV) (w : World) (hN : Nds w v0 ys) (his : ndsL ys = ndsH P) (hk : HOk P) (hlp : P.length ≤ 200) (hl : Hcs w u l) (hPl : P = (csL l).take P.length) (hx : CoAt w cx) : Calls Tryz.prog 26 #[u, v0, coV cx] w (Ret fun v w' => v = .int .i64 (hErr P cx.c) ∧ Ext w w') := by
 obtain ⟨cm, pA, pca, oB, ocb⟩ := cx
 have hps := hx.ps
 have hos := hx.os
 have hcom := hx.com
 dsimp only [CoV.pv, CoV.ov] at hps hos hcom ⊢
 have hpl := hps.lens
 have hol := hos.lens
 obtain ⟨_, _, _, he1_, _, hpc, hpc2, _⟩ := id hps
 cases he1_
 obtain ⟨_, _, _, he2_, _, hoc, hoc2, _⟩ := id hos
 cases he2_
 unfold maxLen at hpc2 hoc2
 refine calls_of_CW 71 [6] [(0, u), (1, v0), (2, .agg (comC (.slice pA cm.parents.length pca) cm.author cm.note (.slice oB cm.ops.length ocb)).toArray)] Tryz.func26 rfl rfl rfl (by simp) args3 ?_
 have hE : Ext w w := Chg.refl
 refine CW.sr fun K1 hK1 => ?_
 refine WL.box rfl rfl (by decide) fun g5 w1 hx1 hg5 hB5 => ?_
 have hlt5 := hB5.lt; have hz1 := hx1.size
 have hM5 := hB5.mem; have hz1 := hx1.size; have hE := hE.thenExt hx1
 refine WL.a rfl ?_
 refine WL.nil (hK1 _ _ ?_); try clear hK1 K1
 refine CW.sr fun K2 hK2 => ?_
 refine WL.v (Y.load Tryz.underlying48 rfl hB5.mem (sz_apiCommit _ _ _ _) rfl) ?_
 refine WL.call Tryz.func27 rfl rfl rfl (rId_any _ cm _ (hcom.ext hE)) (by simp) ?_; rintro v w2 ⟨rfl, hx2⟩; have hz2 := hx2.size; have hE := hE.thenExt hx2; have hB5 := hB5.ext hx2
 refine WL.m rfl ?_
 refine WL.v (Y.extract rfl rfl) ?_
 refine WL.v (Y.extract rfl rfl) ?_
 refine as_apiDigest rfl (by simp) (by decide) fun g7 w3 hx3 hg7 hB7 => ?_
 have hlt7 := hB7.lt; have hz3 := hx3.size
 have hM7 := hB7.mem; have hz3 := hx3.size; have hE := hE.thenExt hx3; have hB5 := hB5.ext hx3
 refine WL.a rfl ?_
 refine WL.nil (hK2 _ _ ?_); try clear hK2 K2
 refine CW.seq fun K3 hK3 => ?_
 refine CW.sr fun K4 hK4 => ?_
 refine WL.m rfl ?_
 refine WL.v (Y.neq rfl rfl) ?_
 refine WL.nil (hK4 _ _ ?_); try clear hK4 K4
 (first | refine CW.condD rfl ?_ ?_ | refine CW.condND rfl ?_ ?_ | refine CW.condN rfl ?_ ?_ | refine CW.cond rfl ?_ ?_) <;> intro ht5
 ·
  -- then
  refine CW.sr fun K6 hK6 => ?_
  refine WL.m rfl ?_
  refine WL.a rfl ?_
  refine WL.nil (hK6 _ _ ?_); try clear hK6 K6
  refine CW.ret ⟨_, rfl, ?_⟩
  exact ⟨by rw [hErr, if_pos (by assumption)]; rfl, hE⟩
 refine CW.skip ?_
 refine hK3 _ _ ?_; try clear hK3 K3
 refine CW.seq fun K7 hK7 => ?_
 refine CW.sr fun K8 hK8 => ?_
 refine WL.m rfl ?_
 refine WL.v (Y.load Tryz.underlying43 rfl hB7.mem (sz_apiDigest _) rfl) ?_
 refine WL.call Tryz.func41 rfl rfl rfl (rFindH_any _ ys P (idD cm) _ (hN.ext hE) his) (by simp) ?_; rintro v w4 ⟨rfl, hx4⟩; have hz4 := hx4.size; have hE := hE.thenExt hx4; have hB5 := hB5.ext hx4; have hB7 := hB7.ext hx4
 refine WL.v (Y.geq rfl rfl) ?_
 refine WL.nil (hK8 _ _ ?_); try clear hK8 K8
 (first | refine CW.condD rfl ?_ ?_ | refine CW.condND rfl ?_ ?_ | refine CW.condN rfl ?_ ?_ | refine CW.cond rfl ?_ ?_) <;> intro ht9
 ·
  -- then
  refine CW.sr fun K10 hK10 => ?_
  refine WL.a rfl ?_
  refine WL.nil (hK10 _ _ ?_); try clear hK10 K10
  refine CW.ret ⟨_, rfl, ?_⟩
  exact ⟨by rw [hErr, if_neg (by assumption), if_pos (findI_ge.1 (by omega))], hE⟩
 refine CW.skip ?_
 refine hK7 _ _ ?_; try clear hK7 K7
 refine CW.seq fun K11 hK11 => ?_
 refine CW.seq fun K12 hK12 => ?_
 have hnew : idD cm ∉ idsH P := fun h => by have := findI_ge.2 h; omega
 have hm0 : mayI cm = 0 := Decidable.not_not.1 (by assumption)
 refine CW.region ?_
 refine WL.a rfl ?_
 refine WL.nil (hK12 _ _ ?_); try clear hK12 K12
 refine CW.block ?_
 refine CW.loop (X := Nat) (fun x => [(0, u), (1, v0), (5, .pointer (some ⟨g5, 0, none⟩)), (9, .int .i64 (x : Int))]) (fun x w0 => x ≤ cm.parents.length ∧ (∀ (i : Nat) (d : Dig), i < x → cm.parents[i]? = some d → d ∈ idsH P) ∧ Ext w w0 ∧ Blk w0 g5 48 (comC (.slice pA cm.parents.length pca) cm.author cm.note (.slice oB cm.ops.length ocb)) ∧ Blk w0 g7 43 (digC (idD cm))) (fun x => cm.parents.length - x) 0 Fr.ok ⟨Nat.zero_le _, (fun i d h => by omega), hE, hB5, hB7⟩ ?_
 intro x w5 hl5
 clear hE hB5 hB7
 obtain ⟨hxm, hpi, hE, hB5, hB7⟩ := hl5
 have hzE := hE.size
 have hlt5_ := hB5.lt
 refine CW.seq fun K13 hK13 => ?_
 refine CW.sr fun K14 hK14 => ?_
 refine WL.m rfl ?_
 refine WL.v (Y.fieldAddr fo_apiCommit0 rfl) ?_
 refine WL.v (Y.load1 Tryz.underlying24 rfl hB5.mem.com0 rfl) ?_
 refine WL.v (Y.len_slice Tryz.underlying24 rfl) ?_
 refine WL.v (Y.lss rfl rfl) ?_
 refine WL.nil (hK14 _ _ ?_); try clear hK14 K14
 (first | refine CW.condD rfl ?_ ?_ | refine CW.condND rfl ?_ ?_ | refine CW.condN rfl ?_ ?_ | refine CW.cond rfl ?_ ?_) <;> intro ht15
 ·
  -- then
  refine CW.skip ?_
  refine hK13 _ _ ?_; try clear hK13 K13
  refine CW.seq fun K16 hK16 => ?_
  refine CW.block ?_
  refine CW.seq fun K17 hK17 => ?_
  obtain ⟨d, hd⟩ : ∃ d, cm.parents[x]? = some d := ⟨_, List.getElem?_eq_getElem (by omega)⟩
  obtain ⟨a2, rfl, hma2⟩ := hps.at hd
  refine CW.region ?_
  refine WL.m rfl ?_
  refine WL.v (Y.fieldAddr fo_apiCommit0 rfl) ?_
  refine WL.v (Y.load1 Tryz.underlying24 rfl hB5.mem.com0 rfl) ?_
  refine WL.m rfl ?_
  refine WL.v (Y.indexAddrN Tryz.underlying24 rfl rfl sz0_apiDigest (by omega)) ?_
  refine WL.v (Y.load Tryz.underlying43 rfl (hma2.ext hE) (sz_apiDigest _) rfl) ?_
  refine WL.call Tryz.func41 rfl rfl rfl (rFindH_any _ ys P d _ (hN.ext hE) his) (by simp) ?_; rintro v w6 ⟨rfl, hx6⟩; have hz6 := hx6.size; have hE := hE.thenExt hx6; have hB5 := hB5.ext hx6; have hB7 := hB7.ext hx6
  refine WL.v (Y.lss rfl rfl) ?_
  refine WL.nil (hK17 _ _ ?_); try clear hK17 K17
  (first | refine CW.condD rfl ?_ ?_ | refine CW.condND rfl ?_ ?_ | refine CW.condN rfl ?_ ?_ | refine CW.cond rfl ?_ ?_) <;> intro ht18
  ·
   -- then
   refine CW.sr fun K19 hK19 => ?_
   refine WL.a rfl ?_
   refine WL.nil (hK19 _ _ ?_); try clear hK19 K19
   refine CW.ret ⟨_, rfl, ?_⟩
   exact ⟨by rw [hErr, if_neg (by omega), if_neg hnew, if_pos ⟨d, List.mem_of_getElem? hd, fun h => by have := findI_ge.2 h; omega⟩], hE⟩
  refine CW.skip ?_
  refine hK16 _ _ ?_; try clear hK16 K16
  refine CW.region ?_
  refine WL.m rfl ?_
  refine WL.v (Y.add rfl rfl ⟨by omega, by omega⟩) ?_
  refine WL.a rfl ?_
  refine WL.nil ?_
  refine ⟨x + 1, by show cm.parents.length - (x + 1) < cm.parents.length - x; omega, Fr.ok, by show x + 1 ≤ cm.parents.length; omega, ?_, hE, hB5, hB7⟩
  intro i q hi hq
  by_cases e : i < x
  ·
   exact hpi i q e hq
  ·
   have e2 : i = x := by omega
   subst e2
   rw [hd] at hq; cases hq
   exact findI_ge.1 (by omega)
 refine CW.exit ?_
 refine hK11 _ _ ?_; try clear hK11 K11
 refine CW.seq fun K20 hK20 => ?_
 have hin : ∀ d ∈ cm.parents, d ∈ idsH P := fun d hd => by
  obtain ⟨i, hi⟩ := List.mem_iff_getElem?.1 hd
  exact hpi i d (by have := (List.getElem?_eq_some_iff.1 hi).1; omega) hi
 refine CW.region ?_
 refine WL.m rfl ?_
 refine WL.v (Y.fieldAddr fo_apiCommit0 rfl) ?_
 refine WL.v (Y.load1 Tryz.underlying24 rfl hB5.mem.com0 rfl) ?_
 refine WL.call Tryz.func31 rfl rfl rfl (rAboveH_any _ _ ys P cm.parents _ (hN.ext hE) his hk hlp (hps.ext hE) hin) (by simp) ?_; rintro v42 w7 hR7
 obtain ⟨hO7, hfu7, hx7⟩ := hR7
 have hz7 := hx7.size
 have hE := hE.thenExt hx7
 have hB5 := hB5.ext hx7
 have hB7 := hB7.ext hx7
 have hA := hO7.sl digC_length (by decide)
 refine WL.a rfl ?_
 refine WL.nil (hK20 _ _ ?_); try clear hK20 K20
 refine CW.seq fun K21 hK21 => ?_
 refine CW.sr fun K22 hK22 => ?_
 refine WL.a rfl ?_
 refine WL.nil (hK22 _ _ ?_); try clear hK22 K22
 refine CW.block ?_
 refine CW.loop (X := Nat) (fun x => [(0, u), (1, v0), (5, .pointer (some ⟨g5, 0, none⟩)), (10, v42), (11, .int .i64 (x : Int))]) (fun x w0 => x ≤ cm.ops.length ∧ (∀ (i : Nat) (o : OpD), i < x → cm.ops[i]? = some o → refKind o.at_ = 2 → fndB P cm.parents o.at_ = true) ∧ Ext w w0 ∧ Ext w7 w0 ∧ Blk w0 g5 48 (comC (.slice pA cm.parents.length pca) cm.author cm.note (.slice oB cm.ops.length ocb)) ∧ Blk w0 g7 43 (digC (idD cm))) (fun x => cm.ops.length - x) 0 Fr.ok ⟨Nat.zero_le _, (fun i d h => by omega), hE, Chg.refl, hB5, hB7⟩ ?_
 intro x w8 hl8
 clear hE hB5 hB7
 obtain ⟨hxm, hfi, hE, hE7, hB5, hB7⟩ := hl8
 have hzE := hE.size
 have hlt5_ := hB5.lt
 refine CW.seq fun K23 hK23 => ?_
 refine CW.sr fun K24 hK24 => ?_
 refine WL.m rfl ?_
 refine WL.v (Y.fieldAddr fo_apiCommit3 rfl) ?_
 refine WL.v (Y.load1 Tryz.underlying46 rfl hB5.mem.com3 rfl) ?_
 refine WL.v (Y.len_slice Tryz.underlying46 rfl) ?_
 refine WL.v (Y.lss rfl rfl) ?_
 refine WL.nil (hK24 _ _ ?_); try clear hK24 K24
 (first | refine CW.condD rfl ?_ ?_ | refine CW.condND rfl ?_ ?_ | refine CW.condN rfl ?_ ?_ | refine CW.cond rfl ?_ ?_) <;> intro ht25
 ·
  -- then
  refine CW.skip ?_
  refine hK23 _ _ ?_; try clear hK23 K23
  refine CW.seq fun K26 hK26 => ?_
  refine CW.block ?_
  obtain ⟨o, ho⟩ : ∃ o, cm.ops[x]? = some o := ⟨_, List.getElem?_eq_getElem (by omega)⟩
  obtain ⟨a2, rfl, hma2⟩ := hos.at ho
  refine CW.seq_testE 70 (refKind o.at_ = 2 ∧ fndB P cm.parents o.at_ = false) ?_ ?_
  ·
   refine CW.region ?_
   refine WL.v (Y.fieldAddr fo_apiCommit3 rfl) ?_
   refine WL.v (Y.load1 Tryz.underlying46 rfl hB5.mem.com3 rfl) ?_
   refine WL.m rfl ?_
   refine WL.v (Y.indexAddrN Tryz.underlying46 rfl rfl sz0_apiOp (by omega)) ?_
   refine WL.v (Y.fieldAddr fo_apiOp2 rfl) ?_
   refine WL.v (Y.load Tryz.underlying68 rfl ((hma2.ext hE).op2) (sz_apiRef _) rfl) ?_
   refine WL.call Tryz.func45 rfl rfl rfl (rRef_any o.at_ _) (by simp) ?_; rintro v w9 ⟨rfl, hx9⟩; have hz9 := hx9.size; have hE := hE.thenExt hx9; have hB5 := hB5.ext hx9; have hB7 := hB7.ext hx9
   refine WL.v (Y.eql rfl rfl) ?_
   refine WL.m rfl ?_
   (first | refine WL.casesD (d := 58) rfl ?_ ?_ | refine WL.casesND (d := 58) rfl ?_ ?_ | refine WL.cases (d := 58) rfl ?_ ?_) <;> intro hg58
   ·
    -- t58 = T
    refine WL.g rfl rfl (Y.move rfl) ?_
    refine WL.g rfl rfl (Y.move rfl) ?_
    refine WL.g rfl rfl (Y.move rfl) ?_
    refine WL.g rfl rfl (Y.fieldAddr fo_apiCommit3 rfl) ?_
    refine WL.g rfl rfl (Y.load1 Tryz.underlying46 rfl hB5.mem.com3 rfl) ?_
    refine WL.g rfl rfl (Y.move rfl) ?_
    refine WL.g rfl rfl (Y.indexAddrN Tryz.underlying46 rfl rfl sz0_apiOp (by omega)) ?_
    refine WL.g rfl rfl (Y.fieldAddr fo_apiOp2 rfl) ?_
    refine WL.g rfl rfl (Y.load Tryz.underlying68 rfl ((hma2.ext hE).op2) (sz_apiRef _) rfl) ?_
    refine WL.gcall rfl rfl Tryz.func46 rfl rfl rfl (rfinds_any u v0 v42 ys P cm.parents l o.at_ _ (hN.ext hE) his hk hlp (hl.ext hE) hPl (hA.ext (hE7.thenExt hx9)) hin ⟨(refKind_two hg58).2.1, (refKind_two hg58).2.2.1⟩) (by decide) ?_; rintro v w10 ⟨rfl, hx10⟩; have hz10 := hx10.size; have hE := hE.thenExt hx10; have hB5 := hB5.ext hx10; have hB7 := hB7.ext hx10
    refine WL.g rfl rfl (Y.not rfl) ?_
    refine WL.v (Y.pick rfl rfl) ?_
    refine WL.nil ⟨⟨_, rfl, ?_⟩, (hx9.thenExt hx10), Fr.okp⟩
    first | exact rw9_t hg58 | exact rw9_f hg58
   ·
    -- t58 = F
    refine WL.o rfl rfl ?_
    refine WL.o rfl rfl ?_
    refine WL.o rfl rfl ?_
    refine WL.o rfl rfl ?_
    refine WL.o rfl rfl ?_
    refine WL.o rfl rfl ?_
    refine WL.o rfl rfl ?_
    refine WL.o rfl rfl ?_
    refine WL.o rfl rfl ?_
    refine WL.o rfl rfl ?_
    refine WL.o rfl rfl ?_
    refine WL.v (Y.pick rfl rfl) ?_
    refine WL.nil ⟨⟨_, rfl, ?_⟩, hx9, Fr.okp⟩
    first | exact rw9_t hg58 | exact rw9_f hg58
  intro w11 hx11; have hz11 := hx11.size; have hE := hE.thenExt hx11; have hB5 := hB5.ext hx11; have hB7 := hB7.ext hx11
  (first | refine CW.condD rfl ?_ ?_ | refine CW.condND rfl ?_ ?_ | refine CW.condN rfl ?_ ?_ | refine CW.cond rfl ?_ ?_) <;> intro ht27
  ·
   -- then
   refine CW.sr fun K28 hK28 => ?_
   refine WL.a rfl ?_
   refine WL.nil (hK28 _ _ ?_); try clear hK28 K28
   refine CW.ret ⟨_, rfl, ?_⟩
   exact ⟨by rw [hErr, if_neg (by omega), if_neg hnew, if_neg (by rintro ⟨p, hp, hn⟩; exact hn (hin p hp)), if_pos ⟨o, List.mem_of_getElem? ho, by assumption⟩], hE⟩
  refine CW.skip ?_
  refine hK26 _ _ ?_; try clear hK26 K26
  refine CW.region ?_
  refine WL.m rfl ?_
  refine WL.v (Y.add rfl rfl ⟨by omega, by omega⟩) ?_
  refine WL.a rfl ?_
  refine WL.nil ?_
  refine ⟨x + 1, by show cm.ops.length - (x + 1) < cm.ops.length - x; omega, Fr.ok, by show x + 1 ≤ cm.ops.length; omega, ?_, hE, hE7.thenExt hx11, hB5, hB7⟩
  intro i q hi hq hr
  by_cases e : i < x
  ·
   exact hfi i q e hq hr
  ·
   have e2 : i = x := by omega
   subst e2
   rw [ho] at hq; cases hq
   cases hf : fndB P cm.parents o.at_ with
   | true => rfl
   | false => exact absurd (And.intro hr hf) (by assumption)
 refine CW.exit ?_
 refine hK21 _ _ ?_; try clear hK21 K21
 refine CW.sr fun K29 hK29 => ?_
 refine WL.a rfl ?_
 refine WL.nil (hK29 _ _ ?_); try clear hK29 K29
 refine CW.ret ⟨_, rfl, ?_⟩
 exact ⟨by rw [hErr, if_neg (by omega), if_neg hnew, if_neg (by rintro ⟨p, hp, hn⟩; exact hn (hin p hp)), if_neg (by
   rintro ⟨o, ho, hr, hf⟩
   obtain ⟨i, hi⟩ := List.mem_iff_getElem?.1 ho
   rw [hfi i o (by have := (List.getElem?_eq_some_iff.1 hi).1; omega) hi hr] at hf
   cases hf)], hE⟩
end Go.Proofs.YtjbeooimhoilmaaGreatDoor
/- The reference's Read of histories, walked. No condition. -/
namespace Go.Proofs.YtjbeooimhoilmaaGreatDoor
open Go.RowKit Go.Fw Go.Pl Go.Sort Go.Fu
set_option maxRecDepth 100000 in
set_option maxHeartbeats 4000000 in
theorem rread9_any (u : Value) (l : List CoV) (w : World) (hl : Hcs w u l) : Calls Tryz.prog 14 #[u] w (Ret fun v w' => ∃ A c ys k, v = .tuple #[.slice A ys.length c, .int .i64 ((rdH (csL l)).1 : Int), .int .i64 (rdH (csL l)).2] ∧ Nds w' (.slice A ys.length c) ys ∧ ndsL ys = ndsH ((csL l).take k) ∧ ((rdH (csL l)).2 = 0 → k = l.length) ∧ Ext w w') := by
 obtain ⟨A2, m2, c2, rfl, hlm, hmc, hcm, hlg⟩ := id hl.sl
 unfold maxLen at hcm
 have hcl : (csL l).length = m2 := by rw [List.length_map]; exact hlm
 refine calls_of_CW 50 [2, 3, 4] [(0, .slice A2 m2 c2)] Tryz.func14 rfl rfl rfl (by simp) args1 ?_
 have hE : Ext w w := Chg.refl
 refine CW.sr fun K1 hK1 => ?_
 refine WL.a rfl ?_
 refine WL.a rfl ?_
 refine WL.a rfl ?_
 refine WL.nil (hK1 _ _ ?_); try clear hK1 K1
 refine CW.seq fun K2 hK2 => ?_
 refine CW.sr fun K3 hK3 => ?_
 refine WL.m rfl ?_
 refine WL.v (Y.len_slice Tryz.underlying22 rfl) ?_
 refine WL.v (Y.gtr rfl rfl) ?_
 refine WL.nil (hK3 _ _ ?_); try clear hK3 K3
 (first | refine CW.condD rfl ?_ ?_ | refine CW.condND rfl ?_ ?_ | refine CW.condN rfl ?_ ?_ | refine CW.cond rfl ?_ ?_) <;> intro ht4
 ·
  -- then
  refine CW.sr fun K5 hK5 => ?_
  refine WL.a rfl ?_
  refine WL.a rfl ?_
  refine WL.a rfl ?_
  refine WL.nil (hK5 _ _ ?_); try clear hK5 K5
  refine CW.ret ⟨_, rfl, ?_⟩
  have he : rdH (csL l) = (0, 4) := by rw [rdH, if_pos (by omega)]
  exact ⟨none, 0, [], 0, by rw [he]; rfl, RdAt.nil.nds (w := w), rfl, fun h => (by rw [he] at h; cases h), hE⟩
 refine CW.skip ?_
 refine hK2 _ _ ?_; try clear hK2 K2
 refine CW.sr fun K6 hK6 => ?_
 refine WL.a rfl ?_
 refine WL.nil (hK6 _ _ ?_); try clear hK6 K6
 refine CW.seq fun K7 hK7 => ?_
 refine CW.sr fun K8 hK8 => ?_
 refine WL.a rfl ?_
 refine WL.nil (hK8 _ _ ?_); try clear hK8 K8
 refine CW.block ?_
 refine CW.loop (X := Option Addr × Nat × List NdV) (fun x => [(0, .slice A2 m2 c2), (5, .slice x.1 x.2.2.length x.2.1), (6, .int .i64 (x.2.2.length : Int))]) (fun x w0 => x.2.2.length ≤ m2 ∧ Own w0 TNo 33 (.slice x.1 x.2.2.length x.2.1) ((x.2.2.map ndC).flatten) ∧ (∀ y ∈ x.2.2, Sl w digC 32 y.pv y.n.ps) ∧ (∀ k, (Value.slice x.1 x.2.2.length x.2.1).ownBlock = some k → w.heap.size ≤ k) ∧ ndsL x.2.2 = ndsH ((csL l).take x.2.2.length) ∧ HOk ((csL l).take x.2.2.length) ∧ hread (csL l) [] = hread ((csL l).drop x.2.2.length) ((csL l).take x.2.2.length) ∧ Ext w w0) (fun x => m2 - x.2.2.length) (none, 0, []) Fr.ok ⟨Nat.zero_le _, Own.nil, (fun y hy => by cases hy), (fun k h => by simp [Value.ownBlock] at h), rfl, HOk.nil, rfl, hE⟩ ?_
 intro x w1 hl1
 clear hE
 obtain ⟨A, c, ys⟩ := x
 dsimp only at hl1 ⊢
 obtain ⟨hxm, hO, hpy, hfu, his, hok, hrd, hE⟩ := hl1
 have hzE := hE.size
 have hOlt := hO.lt
 refine CW.seq fun K9 hK9 => ?_
 refine CW.sr fun K10 hK10 => ?_
 refine WL.m rfl ?_
 refine WL.m rfl ?_
 refine WL.v (Y.len_slice Tryz.underlying22 rfl) ?_
 refine WL.v (Y.lss rfl rfl) ?_
 refine WL.nil (hK10 _ _ ?_); try clear hK10 K10
 (first | refine CW.condD rfl ?_ ?_ | refine CW.condND rfl ?_ ?_ | refine CW.condN rfl ?_ ?_ | refine CW.cond rfl ?_ ?_) <;> intro ht11
 ·
  -- then
  refine CW.skip ?_
  refine hK9 _ _ ?_; try clear hK9 K9
  refine CW.seq fun K12 hK12 => ?_
  refine CW.block ?_
  refine CW.seq fun K13 hK13 => ?_
  obtain ⟨cx, hcx⟩ : ∃ cx, l[ys.length]? = some cx := ⟨_, List.getElem?_eq_getElem (by omega)⟩
  have hco := hl.all cx (List.mem_of_getElem? hcx)
  obtain ⟨a2, rfl, hma2⟩ := hlg _ _ hcx
  obtain ⟨cm, pA, pca, oB, ocb⟩ := cx
  have hps := hco.ps
  have hos := hco.os
  have hcom := hco.com
  dsimp only [CoV.pv, CoV.ov, coC] at hps hos hma2
  have hN : Nds w1 (.slice A ys.length c) ys := ⟨hO.sl ndC_length (by decide), fun y hy => (hpy y hy).ext hE⟩
  have htl : ((csL l).take ys.length).length = ys.length := by rw [List.length_take]; omega
  refine CW.region ?_
  refine WL.m rfl ?_
  refine WL.m rfl ?_
  refine WL.m rfl ?_
  refine WL.m rfl ?_
  refine WL.v (Y.indexAddrN Tryz.underlying22 rfl rfl sz0_apiCommit (by omega)) ?_
  refine WL.v (Y.load Tryz.underlying48 rfl (hma2.ext hE) (sz_apiCommit _ _ _ _) rfl) ?_
  refine WL.call Tryz.func26 rfl rfl rfl (rwrong9_any _ _ ys ((csL l).take ys.length) l ⟨cm, pA, pca, oB, ocb⟩ _ hN his hok (by omega) (hl.ext hE) (by rw [htl]) (hco.ext hE)) (by simp) ?_; rintro v w2 ⟨rfl, hx2⟩; have hz2 := hx2.size; have hE := hE.thenExt hx2
  refine WL.a rfl ?_
  refine WL.nil (hK13 _ _ ?_); try clear hK13 K13
  refine CW.seq fun K14 hK14 => ?_
  refine CW.sr fun K15 hK15 => ?_
  refine WL.m rfl ?_
  refine WL.v (Y.neq rfl rfl) ?_
  refine WL.nil (hK15 _ _ ?_); try clear hK15 K15
  (first | refine CW.condD rfl ?_ ?_ | refine CW.condND rfl ?_ ?_ | refine CW.condN rfl ?_ ?_ | refine CW.cond rfl ?_ ?_) <;> intro ht16
  ·
   -- then
   refine CW.seq fun K17 hK17 => ?_
   have hw1 := hread_stop (cs_at hcx) (by assumption)
   rw [← hrd] at hw1
   refine CW.region ?_
   refine WL.m rfl ?_
   refine WL.m rfl ?_
   refine WL.m rfl ?_
   refine WL.a rfl ?_
   refine WL.a rfl ?_
   refine WL.a rfl ?_
   refine WL.nil (hK17 _ _ ?_); try clear hK17 K17
   refine CW.ret ⟨_, rfl, ?_⟩
   have he : rdH (csL l) = (ys.length, hErr ((csL l).take ys.length) cm) := by rw [rdH, if_neg (by omega)]; exact hw1
   exact ⟨A, c, ys, ys.length, by rw [he], hN.ext hx2, his, fun h => (by rw [he] at h; exact absurd h (by assumption)), hE⟩
  refine CW.skip ?_
  refine hK14 _ _ ?_; try clear hK14 K14
  refine CW.seq fun K18 hK18 => ?_
  have hw0 : hErr ((csL l).take ys.length) cm = 0 := Decidable.not_not.1 (by assumption)
  have hw1 := hErr_ok.1 hw0
  refine CW.region ?_
  refine WL.m rfl ?_
  refine WL.m rfl ?_
  refine WL.v (Y.indexAddrN Tryz.underlying22 rfl rfl sz0_apiCommit (by omega)) ?_
  refine WL.v (Y.load Tryz.underlying48 rfl (hma2.ext hE) (sz_apiCommit _ _ _ _) rfl) ?_
  refine WL.call Tryz.func27 rfl rfl rfl (rId_any _ cm _ (hcom.ext hE)) (by simp) ?_; rintro v w3 ⟨rfl, hx3⟩; have hz3 := hx3.size; have hE := hE.thenExt hx3
  refine WL.m rfl ?_
  refine WL.v (Y.extract rfl rfl) ?_
  refine WL.v (Y.extract rfl rfl) ?_
  refine as_apiDigest rfl (by simp) (by decide) fun g8 w4 hx4 hg8 hB8 => ?_
  have hlt8 := hB8.lt; have hz4 := hx4.size
  have hM8 := hB8.mem; have hz4 := hx4.size; have hE := hE.thenExt hx4
  refine WL.a rfl ?_
  refine WL.nil (hK18 _ _ ?_); try clear hK18 K18
  refine CW.held (fun wq => Chg (fun k => (Value.slice A ys.length c).ownBlock = some k) w4 wq) (by kernel_rfl) 11 rfl fun w5 hx5 => ?_
  have hS : Chg (fun k => (Value.slice A ys.length c).ownBlock = some k) w4 w5 := Ext.chg hx5
  have hz5 := hx5.size
  have h8n : ¬ (Value.slice A ys.length c).ownBlock = some g8 := fun h => by have := hOlt _ h; omega
  have hO := (((hO.ext hx2).ext hx3).ext hx4).ext hx5
  refine RH.tk 0 hS rfl (fun wq hq => Y.move rfl) ?_
  refine RH.tk 1 hS rfl (fun wq hq => Y.load Tryz.underlying43 rfl (hB8.chg hq (fun h => h8n h)).mem (sz_apiDigest _) rfl) ?_
  refine RH.tk 2 hS rfl (fun wq hq => Y.move rfl) ?_
  refine RH.tk 3 hS rfl (fun wq hq => Y.move rfl) ?_
  refine RH.tk 4 hS rfl (fun wq hq => Y.indexAddrN Tryz.underlying22 rfl rfl sz0_apiCommit (by omega)) ?_
  refine RH.tk 5 hS rfl (fun wq hq => Y.fieldAddr fo_apiCommit0 rfl) ?_
  refine RH.tk 6 hS rfl (fun wq hq => Y.load1 Tryz.underlying24 rfl (show wq.cell? _ = some (.slice pA cm.parents.length pca) from (hma2.ext (hE.step hq (fun k h => by have := hfu k h; omega))).com0) rfl) ?_
  refine RH.tk 7 hS rfl (fun wq hq => Y.build rfl (build_ndH _ cm.parents _ _ _ rfl _)) ?_
  refine RH.one 8 (by kernel_rfl) ?_
  refine RS.st rfl (St.buildSlice rfl (bs1_ndH (⟨⟨idD cm, cm.parents⟩, pA, pca⟩ : NdV))) (by decide) fun v47 w6 hR6 => ?_
  obtain ⟨g47, rfl, hg47, hB47, hx6⟩ := hR6
  have hz6 := hx6.size
  have hS : Chg (fun k => (Value.slice A ys.length c).ownBlock = some k) w4 w6 := hS.thenExt hx6
  have hO := hO.ext hx6
  refine ⟨hS, ?_⟩
  refine RH.one 9 (by kernel_rfl) ?_
  refine RS.st rfl (St.append (m := 1) (news := ndC (⟨⟨idD cm, cm.parents⟩, pA, pca⟩ : NdV)) Tryz.underlying37 Tryz.underlying37 ai_ndH rfl rfl hO (Fw.Src.one hB47 (ndC_length _)) one_ndC (by rw [flat_nd]; omega)) (by decide) fun v48 w7 hR7 => ?_
  obtain ⟨hO7, hc7, hf7⟩ := hR7
  have hz7 := hc7.size
  have hS : Chg (fun k => (Value.slice A ys.length c).ownBlock = some k) w4 w7 := hS.trans hc7 (fun k _ h => h)
  obtain ⟨A5, n5, c5, rfl⟩ := hO7.lens
  have hn5 : n5 = (ys ++ [(⟨⟨idD cm, cm.parents⟩, pA, pca⟩ : NdV)]).length := by
   have := (hO7.mem _ _ _ rfl).2.2.1
   rw [List.length_append, flat_nd, ndC_length] at this
   rw [List.length_append, List.length_singleton]
   omega
  subst hn5
  refine ⟨hS, ?_⟩
  refine RH.tk 10 hS rfl (fun wq hq => Y.assign rfl) ?_
  refine RH.done (by kernel_rfl) ?_
  have hE := hE.step hS (fun k h => by have := hfu k h; omega)
  refine hK12 _ _ ?_; try clear hK12 K12
  refine CW.region ?_
  refine WL.m rfl ?_
  refine WL.v (Y.add rfl rfl ⟨by omega, by omega⟩) ?_
  refine WL.a rfl ?_
  refine WL.nil ?_
  refine ⟨(A5, c5, ys ++ [(⟨⟨idD cm, cm.parents⟩, pA, pca⟩ : NdV)]), by show m2 - (ys ++ [_]).length < m2 - ys.length; rw [List.length_append, List.length_singleton]; omega, ?_, ?_, ?_, ?_, ?_, ?_, ?_, ?_, hE⟩
  ·
   rw [show ((ys.length : Int) + 1) = (((ys ++ [(⟨⟨idD cm, cm.parents⟩, pA, pca⟩ : NdV)]).length : Nat) : Int) by rw [List.length_append, List.length_singleton]; omega]
   exact Fr.ok
  ·
   show (ys ++ [_]).length ≤ m2
   rw [List.length_append, List.length_singleton]; omega
  ·
   show Own w7 TNo 33 _ (((ys ++ [_]).map ndC).flatten)
   rw [List.map_append, List.flatten_append]
   simpa using hO7
  ·
   intro y hy
   rcases List.mem_append.1 hy with hy | hy
   ·
    exact hpy y hy
   ·
    rw [List.mem_singleton] at hy; subst hy; exact hps
  ·
   intro k hk
   rcases hf7 with h | h
   ·
    exact hfu k (h ▸ hk)
   ·
    have := h k hk; omega
  ·
   show ndsL (ys ++ [_]) = ndsH ((csL l).take (ys ++ [_]).length)
   rw [List.length_append, List.length_singleton, ndsL, List.map_append, ← ndsL, his, take_succ (cs_at hcx), ndsH, ndsH, List.map_append]; rfl
  ·
   show HOk ((csL l).take (ys ++ [_]).length)
   rw [List.length_append, List.length_singleton, take_succ (cs_at hcx)]
   exact hok.snoc hw1
  ·
   show hread (csL l) [] = hread ((csL l).drop (ys ++ [_]).length) ((csL l).take (ys ++ [_]).length)
   rw [List.length_append, List.length_singleton, hrd]
   exact hread_step (cs_at hcx) hw0
 refine CW.exit ?_
 refine hK7 _ _ ?_; try clear hK7 K7
 refine CW.sr fun K19 hK19 => ?_
 refine WL.m rfl ?_
 refine WL.a rfl ?_
 refine WL.a rfl ?_
 refine WL.a rfl ?_
 refine WL.nil (hK19 _ _ ?_); try clear hK19 K19
 refine CW.ret ⟨_, rfl, ?_⟩
 have hym : ys.length = m2 := by omega
 have he : rdH (csL l) = (0, 0) := by
  rw [rdH, if_neg (by omega), hrd, List.drop_of_length_le (by omega)]; rfl
 exact ⟨A, c, ys, ys.length, by rw [he]; rfl, ⟨hO.sl ndC_length (by decide), fun y hy => (hpy y hy).ext hE⟩, his, fun _ => by omega, hE⟩
end Go.Proofs.YtjbeooimhoilmaaGreatDoor
