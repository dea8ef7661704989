/- run, FugueInserts, walked. No condition. -/
import Derived.Test.YtffkmlkdlhkkmaaFf
set_option linter.unusedSimpArgs false
set_option linter.unusedVariables false
namespace Go.Fw
def runC (n : Int) (s : List UInt8) : List Value := [.int .i64 n, .string (bs s)]
section
variable {w : World} {a : Addr} {n : Int} {s : List UInt8}
theorem Mem.recensionlaw08Run0 (h : Mem w a (runC n s)) : w.cell? (a.add 0) = some (.int .i64 n) := h.cell 0 rfl
theorem Mem.recensionlaw08Run1 (h : Mem w a (runC n s)) : w.cell? (a.add 1) = some (.string (bs s)) := h.cell 1 rfl
end
end Go.Fw
namespace Go.Proofs.Ytffkmlkdlhkkmaa
open Go.RowKit Go.Fw Go.Fu Go.Pl
abbrev TRun : TypeId := 26
theorem fo_recensionlaw08Run0 : FieldOff Try.prog TRun 0 0 := ⟨_, _, 1, Try.underlying26, rfl, by kernel_rfl, by decide, rfl⟩
theorem fo_recensionlaw08Run1 : FieldOff Try.prog TRun 1 1 := ⟨_, _, 1, Try.underlying26, rfl, by kernel_rfl, by decide, rfl⟩
theorem build_refP (n : Int) (w : World) : (Instr.build 49 [(0, Value.bool true), (2, Value.int .i64 n)].toArray).run Try.prog w = .ok (refV ⟨true, Dig.zero, n⟩) w := run_build w _ _ _ (by
  show Try.prog.built _ [(0, Value.bool true), (2, Value.int .i64 n)] = _
  rw [built_ref]
  have e0 : refC RefD.zero = [] ++ [Value.bool false] ++ (digC Dig.zero ++ [Value.int .i64 0]) := rfl
  rw [e0, fill_step [] [Value.bool false] (digC Dig.zero ++ [Value.int .i64 0]) [Value.bool true] rfl rfl rfl rfl]
  have e1 : [] ++ [Value.bool true] ++ (digC Dig.zero ++ [Value.int .i64 0]) = ([Value.bool true] ++ digC Dig.zero) ++ [Value.int .i64 0] ++ [] := by simp
  rw [e1, fill_step ([Value.bool true] ++ digC Dig.zero) [Value.int .i64 0] [] [.int .i64 n] rfl rfl rfl (by rw [List.length_append, digC_length]; rfl), Instr.fill]
  simp [refV, refC])
theorem build_opI (b : UInt8) (r : RefD) (w : World) : (Instr.build 62 [(0, Value.int .i64 1), (3, Value.int .u8 (b.toNat : Int)), (2, refV r)].toArray).run Try.prog w = .ok (.agg (opC ⟨1, false, r, b⟩).toArray) w := run_build w _ _ _ (by
  show Try.prog.built _ [(0, Value.int .i64 1), (3, Value.int .u8 (b.toNat : Int)), (2, refV r)] = _
  rw [built_op8]
  have e0 : opC ⟨0, false, RefD.zero, 0⟩ = [] ++ [Value.int .i64 0] ++ ([Value.bool false] ++ refC RefD.zero ++ [bc 0]) := rfl
  rw [e0, fill_step [] [Value.int .i64 0] ([Value.bool false] ++ refC RefD.zero ++ [bc 0]) [.int .i64 1] rfl rfl rfl rfl]
  have e1 : [] ++ [Value.int .i64 1] ++ ([Value.bool false] ++ refC RefD.zero ++ [bc 0]) = ([Value.int .i64 1, .bool false] ++ refC RefD.zero) ++ [bc 0] ++ [] := by simp
  rw [e1, fill_step ([Value.int .i64 1, .bool false] ++ refC RefD.zero) [bc 0] [] [.int .u8 (b.toNat : Int)] rfl rfl rfl (by rw [List.length_append, refC_length]; rfl)]
  have e2 : ([Value.int .i64 1, .bool false] ++ refC RefD.zero) ++ [.int .u8 (b.toNat : Int)] ++ [] = [Value.int .i64 1, .bool false] ++ refC RefD.zero ++ [.int .u8 (b.toNat : Int)] := by simp
  rw [e2, fill_step [Value.int .i64 1, .bool false] (refC RefD.zero) [.int .u8 (b.toNat : Int)] (refC r) (by rw [refC_length]; rfl) rfl (by rw [refC_length, refC_length]) rfl, Instr.fill]
  simp [opC, bc])
/-- An operation of a run. -/
def runOp (at_ : RefD) (left : Bool) (k : Nat) (b : UInt8) : OpD := if k = 0 then ⟨1, left, at_, b⟩ else ⟨1, false, ⟨true, Dig.zero, (k : Int)⟩, b⟩

set_option maxHeartbeats 1000000 in
theorem run_any (g rb ra : Nat) (ad : List Dig) (ns : List Nn) (n : Int) (s : List UInt8) (w : World) (hT : FtAt w g rb ra ad ns) (hG : Fu.Good (Fw.els ns)) (hn : ns.length ≤ 400001) (hs : s.length ≤ 1048576) : Calls Try.prog 16 #[.pointer (some ⟨g, 0, none⟩), .int .i64 n, .string (bs s)] w (Ret fun v w' => ∃ lv, v = .tuple #[lv, .bool (gapE (Fw.els ns) n).2.2] ∧ Own w' 62 37 lv (((runOps (gapE (Fw.els ns) n).1 (gapE (Fw.els ns) n).2.1 s).map opC).flatten) ∧ (∀ k, lv.ownBlock = some k → w.heap.size ≤ k) ∧ Ext w w') := by
  refine calls_of_CW 45 [6, 7] [(0, .pointer (some ⟨g, 0, none⟩)), (1, .int .i64 n), (2, .string (bs s))] Try.func16 rfl rfl rfl (by simp) args3 ?_
  have hE : Ext w w := Chg.refl
  refine CW.seq fun K1 hK1 => ?_
  refine CW.region ?_   -- region 0
  refine WL.val (Y.assign rfl) (by decide) ?_   -- t6 := assign c(nilslice)
  refine WL.val (Y.assign rfl) (by decide) ?_   -- t7 := assign c(false)
  refine WL.nil ?_
  refine hK1 _ _ ?_; try clear hK1 K1
  refine CW.seq fun K2 hK2 => ?_
  refine CW.region ?_   -- region 1
  refine WL.val (Y.move rfl) (by decide) ?_   -- t15 := move t0
  refine WL.val (Y.move rfl) (by decide) ?_   -- t16 := move t1
  refine WL.call Try.func34 rfl rfl rfl (fgap_any g rb ra ad ns n _ hT hG hn) (by simp) ?_; rintro v w1 ⟨rfl, hx1⟩; have hz1 := hx1.size; have hE := hE.thenExt hx1   -- t17 := call F34(t15, t16) : 27,3
  refine WL.val (Y.move rfl) (by decide) ?_   -- t14 := move t17
  refine WL.val (Y.extract rfl rfl) (by decide) ?_   -- t18 := extract t14 0
  refine WL.val (Y.extract rfl rfl) (by decide) ?_   -- t19 := extract t14 1
  refine WL.val (Y.extract rfl rfl) (by decide) ?_   -- t20 := extract t14 2
  refine as_apiRef rfl (by simp) (by decide) fun g8 w2 hx2 hg8 hB8 => ?_   -- alloc 49; store 49 t8 t18
  have hlt8 := hB8.lt; have hz2 := hx2.size
  have hM8 := hB8.mem; have hz2 := hx2.size; have hE := hE.thenExt hx2
  refine WL.val (Y.assign rfl) (by decide) ?_   -- t9 := assign t19
  refine WL.val (Y.assign rfl) (by decide) ?_   -- t10 := assign t20
  refine WL.nil ?_
  refine hK2 _ _ ?_; try clear hK2 K2
  refine CW.seq fun K3 hK3 => ?_
  refine CW.region ?_   -- region 2
  refine WL.val (Y.assign rfl) (by decide) ?_   -- t11 := assign c(nilslice)
  refine WL.nil ?_
  refine hK3 _ _ ?_; try clear hK3 K3
  refine CW.seq fun K4 hK4 => ?_
  refine CW.seq fun K5 hK5 => ?_
  refine CW.region ?_   -- region 3
  refine WL.val (Y.assign rfl) (by decide) ?_   -- t12 := assign c(0:i64)
  refine WL.nil ?_
  refine hK5 _ _ ?_; try clear hK5 K5
  refine CW.block ?_   -- block 0
  refine CW.loop (X := Nat × Value) (fun x => [(2, .string (bs s)), (8, .pointer (some ⟨g8, 0, none⟩)), (9, .bool (gapE (Fw.els ns) n).2.1), (10, .bool (gapE (Fw.els ns) n).2.2), (11, x.2), (12, .int .i64 (x.1 : Int))]) (fun x w0 => x.1 ≤ s.length ∧ Own w0 62 37 x.2 ((((runOps (gapE (Fw.els ns) n).1 (gapE (Fw.els ns) n).2.1 s).take x.1).map opC).flatten) ∧ (∀ q, x.2.ownBlock = some q → w.heap.size ≤ q) ∧ Ext w w0 ∧ Blk w0 g8 49 (refC (gapE (Fw.els ns) n).1)) (fun x => s.length - x.1) (0, .slice none 0 0) (by repeat (first | exact Fr.le.nil | refine Fr.le.cons rfl ?_)) ⟨Nat.zero_le _, Own.nil, (fun q h => by simp [Value.ownBlock] at h), hE, hB8⟩ ?_
  intro x w3 hl3
  obtain ⟨k, u1⟩ := x
  dsimp only at hl3 ⊢
  obtain ⟨hks, hO, hfr, hE, hB8⟩ := hl3
  have hzl := hE.size
  have hsz := bs_size s
  have hE0 := hE
  have hE : Ext w3 w3 := Chg.refl
  have hg8l := hB8.lt
  have hB80 := hB8
  refine CW.seq fun K6 hK6 => ?_
  refine CW.seq fun K7 hK7 => ?_
  refine CW.region ?_   -- region 4
  refine WL.val (Y.move rfl) (by decide) ?_   -- t21 := move t12
  refine WL.val (Y.move rfl) (by decide) ?_   -- t22 := move t2
  refine WL.val (Y.len_string Try.underlying9 rfl) (by decide) ?_   -- t23 := call len(t22) : 9
  refine WL.val (Y.lss rfl rfl) (by decide) ?_   -- t24 := binOp lss 3 t21 t23 3
  refine WL.nil ?_
  refine hK7 _ _ ?_; try clear hK7 K7
  first | refine CW.condD rfl (fun ht8 => ?_) (fun ht8 => ?_) | refine CW.condND rfl (fun ht8 => ?_) (fun ht8 => ?_) | refine CW.condN rfl (fun ht8 => ?_) (fun ht8 => ?_) | refine CW.cond rfl (fun ht8 => ?_) (fun ht8 => ?_)
  · -- then
    refine CW.skip ?_
    refine hK6 _ _ ?_; try clear hK6 K6
    refine CW.seq fun K9 hK9 => ?_
    refine CW.block ?_   -- block 1
    refine CW.seq fun K10 hK10 => ?_
    obtain ⟨b, hb⟩ : ∃ b, s[k]? = some b := ⟨_, List.getElem?_eq_getElem (by rw [← bs_size]; omega)⟩
    have hbk : ((bs s)[k]'(by omega)) = b := by
      have := (List.getElem?_eq_some_iff.1 hb).2
      rw [← this]; rfl
    refine CW.region ?_   -- region 6
    refine WL.val (Y.move rfl) (by decide) ?_   -- t27 := move t2
    refine WL.val (Y.move rfl) (by decide) ?_   -- t28 := move t12
    refine WL.val (Y.index_string (i := k) Try.underlying9 rfl rfl (by omega)) (by decide) ?_   -- t29 := index 9 t27 t28
    rw [hbk]
    refine WL.val (Y.move rfl) (by decide) ?_   -- t30 := move t12
    refine WL.val (Y.build rfl (build_refP _ _)) (by decide) ?_   -- t31 := build 49 [(0,c(true)), (2,t30)]
    refine WL.val (Y.build rfl (build_opI _ _ _)) (by decide) ?_   -- t32 := build 62 [(0,c(1:i64)), (3,t29), (2,t31)]
    refine as_apiOp rfl (by simp) (by decide) fun g13 w4 hx4 hg13 hB13 => ?_   -- alloc 62; store 62 t13 t32
    have hlt13 := hB13.lt; have hz4 := hx4.size
    have hM13 := hB13.mem; have hz4 := hx4.size; have hE := hE.thenExt hx4; have hB8 := hB8.ext hx4
    refine WL.nil ?_
    refine hK10 _ _ ?_; try clear hK10 K10
    refine CW.seq_to (X := Unit) (fun _ => [(2, .string (bs s)), (8, .pointer (some ⟨g8, 0, none⟩)), (9, .bool (gapE (Fw.els ns) n).2.1), (10, .bool (gapE (Fw.els ns) n).2.2), (11, u1), (12, .int .i64 (k : Int)), (13, .pointer (some ⟨g13, 0, none⟩))]) (fun _ w0 => Ext w3 w0 ∧ Blk w0 g13 62 (opC (runOp (gapE (Fw.els ns) n).1 (gapE (Fw.els ns) n).2.1 k b))) ?_ ?_
    · skip
      refine CW.seq fun K12 hK12 => ?_
      refine CW.region ?_   -- region 7
      refine WL.val (Y.move rfl) (by decide) ?_   -- t33 := move t12
      refine WL.val (Y.eql rfl rfl) (by decide) ?_   -- t34 := binOp eql 3 t33 c(0:i64) 3
      refine WL.nil ?_
      refine hK12 _ _ ?_; try clear hK12 K12
      first | refine CW.condD rfl (fun ht13 => ?_) (fun ht13 => ?_) | refine CW.condND rfl (fun ht13 => ?_) (fun ht13 => ?_) | refine CW.condN rfl (fun ht13 => ?_) (fun ht13 => ?_) | refine CW.cond rfl (fun ht13 => ?_) (fun ht13 => ?_)
      · -- then
        refine CW.region ?_   -- region 8
        refine WL.val (Y.load Try.underlying49 rfl hB8.mem (sz_apiRef _) rfl) (by decide) ?_   -- t35 := load 49 t8
        refine WL.val (Y.move rfl) (by decide) ?_   -- t36 := move t9
        refine WL.val (Y.fieldAddr fo_apiOp2 rfl) (by decide) ?_   -- t37 := fieldAddr 62 t13 2
        refine WL.store (g := g13) (pre := [.int .i64 1, .bool false]) (old := refC ⟨true, Dig.zero, (k : Int)⟩) (post := [bc b]) (new := refC (gapE (Fw.els ns) n).1) rfl rfl rfl rfl (sz_apiRef _) (by simpa [opC] using hB13) (by simp only [refC_length]) (one_refC) (fun w5 hc5 hB5_ => ?_)   -- _ := store 49 t37 t35
        have hz5 := hc5.size; have hE := hE.step hc5 (fun k h => by omega); have hB8 := hB8.chg hc5 (fun h => by omega)
        skip
        refine WL.val (Y.fieldAddr fo_apiOp1 rfl) (by decide) ?_   -- t38 := fieldAddr 62 t13 1
        refine WL.store (g := g13) (pre := [.int .i64 1]) (old := [.bool false]) (post := refC (gapE (Fw.els ns) n).1 ++ [bc b]) (new := [.bool (gapE (Fw.els ns) n).2.1]) rfl rfl rfl rfl (by kernel_rfl) (by simpa using hB5_) (by first | rfl | (simp [digC_length, opC_length]; done) | (simp only [digC_length, opC_length]; omega)) (one1 rfl) (fun w6 hc6 hB6_ => ?_)   -- _ := store 4 t38 t36
        have hz6 := hc6.size; have hE := hE.step hc6 (fun k h => by omega); have hB8 := hB8.chg hc6 (fun h => by omega)
        skip
        refine WL.nil ?_
        exact ⟨(), (by repeat (first | exact Fr.le.nil | refine Fr.le.cons rfl ?_)), hE, (by rw [runOp, if_pos (by omega)]; simpa [opC] using hB6_)⟩
      -- else
      refine CW.skip ?_
      exact ⟨(), (by repeat (first | exact Fr.le.nil | refine Fr.le.cons rfl ?_)), hE, (by rw [runOp, if_neg (by omega)]; exact hB13)⟩
    rintro u w7 hj7
    obtain ⟨hE, hB13⟩ := hj7
    have hz7 := hE.size
    refine CW.region ?_   -- region 9
    refine WL.val (Y.move rfl) (by decide) ?_   -- t39 := move t11
    refine WL.val (Y.load Try.underlying62 rfl hB13.mem (sz_apiOp _) rfl) (by decide) ?_   -- t40 := load 62 t13
    refine WL.st (St.buildSlice rfl (bs1_op _)) (by decide) fun v41 w8 hR8 => ?_   -- t41 := buildSlice 35 1 [(0,t40)]
    obtain ⟨g41, rfl, hg41, hB41, hx8⟩ := hR8
    have hz8 := hx8.size
    have hE := hE.thenExt hx8
    refine WL.st (St.append (m := 1) (news := opC (runOp (gapE (Fw.els ns) n).1 (gapE (Fw.els ns) n).2.1 k b)) Try.underlying35 Try.underlying35 ai_op rfl rfl (hO.ext hE) (Fw.Src.one hB41 (opC_length _)) one_opC (by rw [flat_length opC_length, List.length_take]; omega)) (by decide) fun v42 w9 hR9 => ?_   -- t42 := call append(t39, t41) : 35,35
    obtain ⟨hO9, hc9, hf9⟩ := hR9
    have hz9 := hc9.size
    have hE9 : Ext w w9 := (hE0.thenExt hE).step hc9 (fun q hq => hfr q hq)
    have hfr9 : ∀ q, v42.ownBlock = some q → w.heap.size ≤ q := fun q hq => by
      rcases hf9 with h | h
      · rw [h] at hq; exact hfr q hq
      · have := h q hq; omega
    have hB89 := (hB80.ext hE).chg hc9 (fun h => by
      obtain ⟨_, _, h1⟩ := hO.kind h
      have h2 : _ = _ := h1.symm.trans hB80
      injection h2 with h2; injection h2 with _ h2; exact absurd h2 (by decide))
    have hgk : (runOps (gapE (Fw.els ns) n).1 (gapE (Fw.els ns) n).2.1 s)[k]? = some (runOp (gapE (Fw.els ns) n).1 (gapE (Fw.els ns) n).2.1 k b) := run_get hb
    have hO10 : Own w9 62 37 v42 ((((runOps (gapE (Fw.els ns) n).1 (gapE (Fw.els ns) n).2.1 s).take (k + 1)).map opC).flatten) := by
      rw [Go.Pl.take_succ hgk, List.map_append, List.flatten_append]
      simpa using hO9
    refine WL.val (Y.assign rfl) (by decide) ?_   -- t11 := assign t42
    refine WL.nil ?_
    refine hK9 _ _ ?_; try clear hK9 K9
    refine CW.region ?_   -- region 5
    refine WL.val (Y.move rfl) (by decide) ?_   -- t25 := move t12
    refine WL.val (Y.add rfl rfl ⟨by omega, by omega⟩) (by decide) ?_   -- t26 := binOp add 3 t25 c(1:i64) 3
    refine WL.val (Y.assign rfl) (by decide) ?_   -- t12 := assign t26
    refine WL.nil ?_
    exact ⟨(k + 1, v42), (by show s.length - (k + 1) < s.length - k; omega), (by repeat (first | exact Fr.le.nil | refine Fr.le.cons rfl ?_)), (by show k + 1 ≤ s.length; omega), hO10, hfr9, hE9, hB89⟩
  -- else
  refine CW.exit ?_   -- exit 0
  refine hK4 _ _ ?_; try clear hK4 K4
  refine CW.seq fun K14 hK14 => ?_
  refine CW.region ?_   -- region 10
  refine WL.val (Y.move rfl) (by decide) ?_   -- t43 := move t11
  refine WL.val (Y.move rfl) (by decide) ?_   -- t44 := move t10
  refine WL.val (Y.assign rfl) (by decide) ?_   -- t6 := assign t43
  refine WL.val (Y.assign rfl) (by decide) ?_   -- t7 := assign t44
  refine WL.nil ?_
  refine hK14 _ _ ?_; try clear hK14 K14
  refine CW.ret ⟨_, rfl, ?_⟩
  have htk : (runOps (gapE (Fw.els ns) n).1 (gapE (Fw.els ns) n).2.1 s).take k = (runOps (gapE (Fw.els ns) n).1 (gapE (Fw.els ns) n).2.1 s) := List.take_of_length_le (by rw [run_length]; omega)
  rw [htk] at hO
  exact ⟨u1, rfl, hO, hfr, hE0⟩
set_option maxHeartbeats 1000000 in
theorem inserts_any (u : Value) (l : List CmV) (id : Dig) (n : Int) (s : List UInt8) (w : World) (hl : Cms w u l) (hs : s.length ≤ 1048576) : Calls Try.prog 3 #[u, digV id, .agg (runC n s).toArray] w (Ret fun v w' => v = .bool true ∧ Ext w w') := by
  obtain ⟨A, m, c, rfl, hm, hmc, hcm, _⟩ := _root_.id hl.sl
  unfold maxLen at hcm
  refine calls_of_CW 75 [6] [(0, .slice A m c), (1, digV id), (2, .agg (runC n s).toArray)] Try.func3 rfl rfl rfl (by simp) args3 ?_
  have hE : Ext w w := Chg.refl
  refine CW.seq fun K1 hK1 => ?_
  refine CW.region ?_   -- region 0
  refine WL.box rfl rfl (by decide) fun g4 w1 hx1 hg4 hB4 => ?_   -- t4 := box 24 t1
  have hlt4 := hB4.lt; have hz1 := hx1.size
  have hM4 := hB4.mem; have hz1 := hx1.size; have hE := hE.thenExt hx1
  refine WL.box rfl rfl (by decide) fun g5 w2 hx2 hg5 hB5 => ?_   -- t5 := box 26 t2
  have hlt5 := hB5.lt; have hz2 := hx2.size
  have hM5 := hB5.mem; have hz2 := hx2.size; have hE := hE.thenExt hx2; have hB4 := hB4.ext hx2
  refine WL.val (Y.assign rfl) (by decide) ?_   -- t6 := assign c(false)
  refine WL.nil ?_
  refine hK1 _ _ ?_; try clear hK1 K1
  refine CW.seq fun K2 hK2 => ?_
  refine CW.region ?_   -- region 1
  refine WL.val (Y.move rfl) (by decide) ?_   -- t16 := move t0
  refine WL.call Try.func11 rfl rfl rfl (grown_any _ l _ (hl.ext hE)) (by simp) ?_; rintro v17 w3 hR3   -- t17 := call F11(t16) : 22
  obtain ⟨g, rb, ra, ns, gr, rs, av, ev_, L, T, rfl, hA⟩ := hR3
  have hz3 := hA.ext.size
  have hE := hE.thenExt hA.ext
  have hB4 := hB4.ext hA.ext
  have hB5 := hB5.ext hA.ext
  have hT3 := hA.ft
  have hfe := hA.fe
  have hok := hA.ok
  have hG : Fu.Good (Fw.els ns) := by rw [hfe]; exact hok.good
  have hel : (Fw.els ns).length = ns.length := List.length_map _
  have hn5 : ns.length ≤ 400001 := by rw [← hel, hfe]; exact hok.few
  have hlv : (seenE T.e).length = liveN ns := by rw [← hfe]; exact hG.seen_length
  have hln : liveN ns ≤ ns.length := by
    have := List.countP_le_length (p := fun x : El => !x.gone) (l := Fw.els ns)
    rwa [hel] at this
  have hFl : ∀ q, Fp g rb ra ns q → w2.heap.size ≤ q ∧ q < w3.heap.size := fun q hq => ⟨hA.fnew q hq, hT3.lt hq⟩
  refine WL.val (Y.move rfl) (by decide) ?_   -- t15 := move t17
  refine WL.val (Y.extract rfl rfl) (by decide) ?_   -- t18 := extract t15 0
  refine WL.val (Y.extract rfl rfl) (by decide) ?_   -- t19 := extract t15 1
  refine WL.val (Y.extract rfl rfl) (by decide) ?_   -- t20 := extract t15 2
  refine WL.val (Y.assign rfl) (by decide) ?_   -- t7 := assign t18
  refine WL.val (Y.assign rfl) (by decide) ?_   -- t8 := assign t19
  refine WL.val (Y.assign rfl) (by decide) ?_   -- t9 := assign t20
  refine WL.nil ?_
  refine hK2 _ _ ?_; try clear hK2 K2
  refine CW.seq fun K3 hK3 => ?_
  refine CW.seq_testE 26 (False) ?_ ?_
  · refine CW.region ?_
    refine WL.val (Y.move rfl) (by decide) ?_   -- t21 := move t9
    refine WL.val (Y.not rfl) (by decide) ?_   -- t22 := unOp not 4 t21
    refine WL.val (Y.move rfl) (by decide) ?_   -- t23 := move t22
    first | refine WL.casesD (d := 23) rfl (fun hg23 => ?_) (fun hg23 => ?_) | refine WL.casesND (d := 23) rfl (fun hg23 => ?_) (fun hg23 => ?_) | refine WL.cases (d := 23) rfl (fun hg23 => ?_) (fun hg23 => ?_)
    · -- t23 = T
      refine WL.goff rfl rfl (by decide) ?_   -- t24 := call F12() :  [if 2=false]
      refine WL.goff rfl rfl (by decide) ?_   -- t25 := unOp not 4 t24 [if 2=false]
      refine WL.val (Y.pick rfl rfl) (by decide) ?_   -- t26 := pick t23 c(true) t25
      refine WL.nil ⟨⟨_, rfl, ?_⟩, Chg.refl, (by repeat (first | exact Fr.le.refl | refine Fr.le.push rfl ?_))⟩
      first | (simp only [*, Int.natCast_inj, Bool.not_eq_true', decide_eq_false_iff_not, decide_eq_true_eq, not_true_eq_false, not_false_eq_true, true_and, false_and, and_true, and_false, false_or, or_false, true_or, or_true, iff_true, true_iff, iff_false, false_iff]; done) | (simp_all; done) | (refine congrArg Value.bool (Bool.eq_iff_iff.2 ?_); simp_all; done) | (simp_all; omega)
    · -- t23 = F
      refine WL.gcall rfl rfl Try.func12 rfl rfl rfl (alive_any _) (by decide) ?_; rintro v w4 ⟨rfl, hx4⟩; have hz4 := hx4.size; have hE := hE.thenExt hx4; have hB4 := hB4.ext hx4; have hB5 := hB5.ext hx4   -- t24 := call F12() :  [if 2=false]
      refine WL.gval rfl rfl (Y.not rfl) (by decide) ?_   -- t25 := unOp not 4 t24 [if 2=false]
      refine WL.val (Y.pick rfl rfl) (by decide) ?_   -- t26 := pick t23 c(true) t25
      refine WL.nil ⟨⟨_, rfl, ?_⟩, hx4, (by repeat (first | exact Fr.le.refl | refine Fr.le.push rfl ?_))⟩
      first | (simp only [*, Int.natCast_inj, Bool.not_eq_true', decide_eq_false_iff_not, decide_eq_true_eq, not_true_eq_false, not_false_eq_true, true_and, false_and, and_true, and_false, false_or, or_false, true_or, or_true, iff_true, true_iff, iff_false, false_iff]; done) | (simp_all; done) | (refine congrArg Value.bool (Bool.eq_iff_iff.2 ?_); simp_all; done) | (simp_all; omega)
  intro w5 hx5; have hz5 := hx5.size; have hE := hE.thenExt hx5; have hB4 := hB4.ext hx5; have hB5 := hB5.ext hx5
  first | refine CW.condD rfl (fun ht4 => ?_) (fun ht4 => ?_) | refine CW.condND rfl (fun ht4 => ?_) (fun ht4 => ?_) | refine CW.condN rfl (fun ht4 => ?_) (fun ht4 => ?_) | refine CW.cond rfl (fun ht4 => ?_) (fun ht4 => ?_)
  · -- then
    refine CW.seq fun K5 hK5 => ?_
    refine CW.region ?_   -- region 3
    refine WL.val (Y.assign rfl) (by decide) ?_   -- t6 := assign c(false)
    refine WL.nil ?_
    refine hK5 _ _ ?_; try clear hK5 K5
    refine CW.ret ⟨_, rfl, ?_⟩
    exact False.elim (by assumption)
  -- else
  refine CW.skip ?_
  refine hK3 _ _ ?_; try clear hK3 K3
  refine CW.seq fun K6 hK6 => ?_
  obtain ⟨k, hk, hkp⟩ := placeI_le n (liveN ns)
  have htl : (textE T.e).length = liveN ns := by rw [textE_length, hlv]
  have hgo : (gapE (Fw.els ns) k).2.2 = true := by rw [hfe, gapE, if_neg (by omega)]
  have hins := fun id => insert_text hok (n := k) (by omega) (s := s) (id := id)
  refine CW.quiet (fun wq => Ext w5 wq) (by kernel_rfl) (by kernel_rfl) Chg.drew ?_
  refine QL.val (fun wq hq => Y.fieldAddr fo_recensionlaw08Run0 rfl) (by decide) ?_   -- t27 := fieldAddr 26 t5 0
  refine QL.val (fun wq hq => Y.load1 Try.underlying3 rfl (hB5.ext hq).mem.recensionlaw08Run0 rfl) (by decide) ?_   -- t28 := load 3 t27
  refine QL.val (fun wq hq => Y.move rfl) (by decide) ?_   -- t29 := move t7
  refine QL.call Try.func14 rfl rfl rfl (fun wq hq => ret_ext (flen_any g rb ra _ ns _ ((hT3.ext hx5).ext hq)) hq) (by simp) ?_   -- t30 := call F14(t29) : 27
  refine QL.call Try.func13 rfl rfl rfl (fun wq hq => ret_ext (place_any n (liveN ns) _ (by omega)) hq) (by simp) ?_   -- t31 := call F13(t28, t30) : 3,3
  rw [hkp]
  refine QL.val (fun wq hq => Y.assign rfl) (by decide) ?_   -- t10 := assign t31
  refine QL.nil fun w6 hx6 => ?_
  have hz6 := hx6.size
  have hE := hE.thenExt hx6
  have hB4 := hB4.ext hx6
  have hB5 := hB5.ext hx6
  refine hK6 _ _ ?_; try clear hK6 K6
  refine CW.seq fun K7 hK7 => ?_
  refine CW.region ?_   -- region 5
  refine WL.val (Y.move rfl) (by decide) ?_   -- t32 := move t7
  refine WL.call Try.func15 rfl rfl rfl ((by have h9 := ftext_any g rb ra _ ns _ ((hT3.ext hx5).ext hx6) hG hn5; rw [hfe] at h9; exact h9)) (by simp) ?_; rintro v w7 ⟨rfl, hx7⟩; have hz7 := hx7.size; have hE := hE.thenExt hx7; have hB4 := hB4.ext hx7; have hB5 := hB5.ext hx7   -- t33 := call F15(t32) : 27
  refine WL.val (Y.assign rfl) (by decide) ?_   -- t11 := assign t33
  refine WL.nil ?_
  refine hK7 _ _ ?_; try clear hK7 K7
  refine CW.seq fun K8 hK8 => ?_
  refine CW.region ?_   -- region 6
  refine WL.val (Y.move rfl) (by decide) ?_   -- t35 := move t7
  refine WL.val (Y.move rfl) (by decide) ?_   -- t36 := move t10
  refine WL.val (Y.fieldAddr fo_recensionlaw08Run1 rfl) (by decide) ?_   -- t37 := fieldAddr 26 t5 1
  refine WL.val (Y.load1 Try.underlying9 rfl hB5.mem.recensionlaw08Run1 rfl) (by decide) ?_   -- t38 := load 9 t37
  refine WL.call Try.func16 rfl rfl rfl (run_any g rb ra _ ns (k : Int) s _ (((hT3.ext hx5).ext hx6).ext hx7) hG hn5 hs) (by simp) ?_; rintro v39 w8 hR8   -- t39 := call F16(t35, t36, t38) : 27,3,9
  obtain ⟨lv, rfl, hOl, hfl, hx8⟩ := hR8
  have hz8 := hx8.size
  have hE := hE.thenExt hx8
  have hB4 := hB4.ext hx8
  have hB5 := hB5.ext hx8
  have hT8 := ((((hT3.ext hx5).ext hx6).ext hx7).ext hx8)
  rw [hgo]
  rw [hfe] at hOl
  have hSl := hOl.sl opC_length (by decide)
  refine WL.val (Y.move rfl) (by decide) ?_   -- t34 := move t39
  refine WL.val (Y.extract rfl rfl) (by decide) ?_   -- t40 := extract t34 0
  refine WL.val (Y.extract rfl rfl) (by decide) ?_   -- t41 := extract t34 1
  refine WL.val (Y.assign rfl) (by decide) ?_   -- t12 := assign t40
  refine WL.val (Y.assign rfl) (by decide) ?_   -- t13 := assign t41
  refine WL.nil ?_
  refine hK8 _ _ ?_; try clear hK8 K8
  refine CW.seq fun K9 hK9 => ?_
  refine CW.seq fun K10 hK10 => ?_
  refine CW.region ?_   -- region 7
  refine WL.val (Y.move rfl) (by decide) ?_   -- t42 := move t13
  refine WL.val (Y.not rfl) (by decide) ?_   -- t43 := unOp not 4 t42
  refine WL.nil ?_
  refine hK10 _ _ ?_; try clear hK10 K10
  first | refine CW.condD rfl (fun ht11 => ?_) (fun ht11 => ?_) | refine CW.condND rfl (fun ht11 => ?_) (fun ht11 => ?_) | refine CW.condN rfl (fun ht11 => ?_) (fun ht11 => ?_) | refine CW.cond rfl (fun ht11 => ?_) (fun ht11 => ?_)
  · -- then
    refine CW.seq fun K12 hK12 => ?_
    refine CW.region ?_   -- region 8
    refine WL.val (Y.assign rfl) (by decide) ?_   -- t6 := assign c(false)
    refine WL.nil ?_
    refine hK12 _ _ ?_; try clear hK12 K12
    refine CW.ret ⟨_, rfl, ?_⟩
    simp_all
  -- else
  refine CW.skip ?_
  refine hK9 _ _ ?_; try clear hK9 K9
  refine CW.seq fun K13 hK13 => ?_
  refine CW.region ?_   -- region 9
  refine WL.val (Y.move rfl) (by decide) ?_   -- t44 := move t7
  refine WL.val (Y.load Try.underlying24 rfl hB4.mem (sz_apiDigest _) rfl) (by decide) ?_   -- t45 := load 24 t4
  refine WL.val (Y.move rfl) (by decide) ?_   -- t46 := move t12
  refine WL.call Try.func17 rfl rfl rfl (fadd_any g rb ra T.ad ns id _ (runOps (gapE T.e k).1 (gapE T.e k).2.1 s) L _ hT8 (by rw [hfe]; exact hok) hSl (fun _ q hq => ⟨hOl.lt q hq, fun h => by have := (hFl q h).2; have := hfl q hq; omega⟩)) (by simp) ?_; rintro v47 w9 hR9   -- t47 := call F17(t44, t45, t46) : 27,24,35
  obtain ⟨rfl, ns9, hT9, he9, hc9, hf9, _⟩ := hR9
  rw [hfe] at hT9 he9
  have hwe : wrongC ⟨T.ad, Fw.els ns⟩ id (runOps (gapE T.e k).1 (gapE T.e k).2.1 s) = wrongC T id (runOps (gapE T.e k).1 (gapE T.e k).2.1 s) := by rw [hfe]
  rw [hwe]
  have hz9 := hc9.size
  have hE := hE.step hc9 (fun q hq => by have := (hFl q hq).1; omega)
  have hB4 := hB4.chg hc9 (fun h => by have := (hFl _ h).1; omega)
  have hB5 := hB5.chg hc9 (fun h => by have := (hFl _ h).1; omega)
  obtain ⟨L9, hok9, _⟩ := hok.addT id (runOps (gapE T.e k).1 (gapE T.e k).2.1 s)
  have hG9 : Fu.Good (Fw.els ns9) := by rw [he9]; exact hok9.good
  have hel9 : (Fw.els ns9).length = ns9.length := List.length_map _
  have hn9 : ns9.length ≤ 400001 := by rw [← hel9, he9]; exact hok9.few
  have hsm : wrongC T id (runOps (gapE T.e k).1 (gapE T.e k).2.1 s) ≠ 0 → Fw.els ns9 = T.e := fun h => by rw [he9, addT, if_neg h]
  refine WL.val (Y.assign rfl) (by decide) ?_   -- t14 := assign t47
  refine WL.nil ?_
  refine hK13 _ _ ?_; try clear hK13 K13
  refine CW.seq fun K14 hK14 => ?_
  refine CW.seq fun K15 hK15 => ?_
  refine CW.region ?_   -- region 10
  refine WL.val (Y.move rfl) (by decide) ?_   -- t48 := move t14
  refine WL.val (Y.neq rfl rfl) (by decide) ?_   -- t49 := binOp neq 38 t48 c(0:i64) 38
  refine WL.nil ?_
  refine hK15 _ _ ?_; try clear hK15 K15
  first | refine CW.condD rfl (fun ht16 => ?_) (fun ht16 => ?_) | refine CW.condND rfl (fun ht16 => ?_) (fun ht16 => ?_) | refine CW.condN rfl (fun ht16 => ?_) (fun ht16 => ?_) | refine CW.cond rfl (fun ht16 => ?_) (fun ht16 => ?_)
  · -- then
    refine CW.seq fun K17 hK17 => ?_
    refine CW.region ?_   -- region 11
    refine WL.val (Y.move rfl) (by decide) ?_   -- t50 := move t14
    refine WL.val (Y.eql rfl rfl) (by decide) ?_   -- t51 := binOp eql 38 t50 c(6:i64) 38
    refine WL.val (Y.move rfl) (by decide) ?_   -- t52 := move t51
    first | refine WL.casesD (d := 52) rfl (fun hg52 => ?_) (fun hg52 => ?_) | refine WL.casesND (d := 52) rfl (fun hg52 => ?_) (fun hg52 => ?_) | refine WL.cases (d := 52) rfl (fun hg52 => ?_) (fun hg52 => ?_)
    · -- t52 = T
      refine WL.goff rfl rfl (by decide) ?_   -- t53 := move t14 [if 2=false]
      refine WL.goff rfl rfl (by decide) ?_   -- t54 := binOp eql 38 t53 c(4:i64) 38 [if 2=false]
      refine WL.val (Y.pick rfl rfl) (by decide) ?_   -- t55 := pick t52 c(true) t54
      refine WL.val (Y.move rfl) (by decide) ?_   -- t56 := move t55
      refine WL.gval rfl rfl (Y.move rfl) (by decide) ?_   -- t57 := move t7 [if 6=true]
      refine WL.gcall rfl rfl Try.func15 rfl rfl rfl (ftext_any g rb ra _ ns9 _ hT9 hG9 hn9) (by decide) ?_; rintro v w10 ⟨rfl, hx10⟩; have hz10 := hx10.size; have hE := hE.thenExt hx10; have hB4 := hB4.ext hx10; have hB5 := hB5.ext hx10   -- t58 := call F15(t57) : 27 [if 6=true]
      refine WL.gval rfl rfl (Y.move rfl) (by decide) ?_   -- t59 := move t11 [if 6=true]
      refine WL.gval rfl rfl (Y.eql_string rfl rfl) (by decide) ?_   -- t60 := binOp eql 9 t58 t59 9 [if 6=true]
      refine WL.val (Y.pick rfl rfl) (by decide) ?_   -- t61 := pick t56 t60 c(false)
      refine WL.val (Y.assign rfl) (by decide) ?_   -- t6 := assign t61
      refine WL.nil ?_
      refine hK17 _ _ ?_; try clear hK17 K17
      refine CW.ret ⟨_, rfl, ?_⟩
      exact ⟨by rw [hsm (by assumption)]; simp, hE⟩
    · -- t52 = F
      refine WL.gval rfl rfl (Y.move rfl) (by decide) ?_   -- t53 := move t14 [if 2=false]
      refine WL.gval rfl rfl (Y.eql rfl rfl) (by decide) ?_   -- t54 := binOp eql 38 t53 c(4:i64) 38 [if 2=false]
      refine WL.val (Y.pick rfl rfl) (by decide) ?_   -- t55 := pick t52 c(true) t54
      refine WL.val (Y.move rfl) (by decide) ?_   -- t56 := move t55
      first | refine WL.casesD (d := 56) rfl (fun hg56 => ?_) (fun hg56 => ?_) | refine WL.casesND (d := 56) rfl (fun hg56 => ?_) (fun hg56 => ?_) | refine WL.cases (d := 56) rfl (fun hg56 => ?_) (fun hg56 => ?_)
      · -- t56 = T
        refine WL.gval rfl rfl (Y.move rfl) (by decide) ?_   -- t57 := move t7 [if 6=true]
        refine WL.gcall rfl rfl Try.func15 rfl rfl rfl (ftext_any g rb ra _ ns9 _ hT9 hG9 hn9) (by decide) ?_; rintro v w11 ⟨rfl, hx11⟩; have hz11 := hx11.size; have hE := hE.thenExt hx11; have hB4 := hB4.ext hx11; have hB5 := hB5.ext hx11   -- t58 := call F15(t57) : 27 [if 6=true]
        refine WL.gval rfl rfl (Y.move rfl) (by decide) ?_   -- t59 := move t11 [if 6=true]
        refine WL.gval rfl rfl (Y.eql_string rfl rfl) (by decide) ?_   -- t60 := binOp eql 9 t58 t59 9 [if 6=true]
        refine WL.val (Y.pick rfl rfl) (by decide) ?_   -- t61 := pick t56 t60 c(false)
        refine WL.val (Y.assign rfl) (by decide) ?_   -- t6 := assign t61
        refine WL.nil ?_
        refine hK17 _ _ ?_; try clear hK17 K17
        refine CW.ret ⟨_, rfl, ?_⟩
        exact ⟨by rw [hsm (by assumption)]; simp, hE⟩
      · -- t56 = F
        refine WL.goff rfl rfl (by decide) ?_   -- t57 := move t7 [if 6=true]
        refine WL.goff rfl rfl (by decide) ?_   -- t58 := call F15(t57) : 27 [if 6=true]
        refine WL.goff rfl rfl (by decide) ?_   -- t59 := move t11 [if 6=true]
        refine WL.goff rfl rfl (by decide) ?_   -- t60 := binOp eql 9 t58 t59 9 [if 6=true]
        refine WL.val (Y.pick rfl rfl) (by decide) ?_   -- t61 := pick t56 t60 c(false)
        refine WL.val (Y.assign rfl) (by decide) ?_   -- t6 := assign t61
        refine WL.nil ?_
        refine hK17 _ _ ?_; try clear hK17 K17
        refine CW.ret ⟨_, rfl, ?_⟩
        rcases (hins id).1 with h | h | h
        · exact absurd h (by assumption)
        · exact absurd h (by assumption)
        · exact absurd h (by assumption)
  -- else
  refine CW.skip ?_
  refine hK14 _ _ ?_; try clear hK14 K14
  refine CW.seq fun K18 hK18 => ?_
  have hw0 : wrongC T id (runOps (gapE T.e k).1 (gapE T.e k).2.1 s) = 0 := Decidable.not_not.1 (by assumption)
  have htx : textE (Fw.els ns9) = (textE T.e).take k ++ s ++ (textE T.e).drop k := by rw [he9]; exact (hins id).2 hw0
  refine CW.quiet (fun wq => Ext w9 wq) (by kernel_rfl) (by kernel_rfl) Chg.drew ?_
  refine QL.val (fun wq hq => Y.move rfl) (by decide) ?_   -- t62 := move t7
  refine QL.call Try.func15 rfl rfl rfl (fun wq hq => ret_ext (by have h9 := ftext_any g rb ra _ ns9 _ (hT9.ext hq) hG9 hn9; rw [htx] at h9; exact h9) hq) (by simp) ?_   -- t63 := call F15(t62) : 27
  refine QL.val (fun wq hq => Y.move rfl) (by decide) ?_   -- t64 := move t11
  refine QL.val (fun wq hq => Y.move rfl) (by decide) ?_   -- t65 := move t10
  refine QL.val (fun wq hq => Y.strHead (j := k) Try.underlying9 rfl rfl (by omega) (by omega)) (by decide) ?_   -- t66 := slice 9 t64 none t65 none
  refine QL.val (fun wq hq => Y.fieldAddr fo_recensionlaw08Run1 rfl) (by decide) ?_   -- t67 := fieldAddr 26 t5 1
  refine QL.val (fun wq hq => Y.load1 Try.underlying9 rfl (hB5.ext hq).mem.recensionlaw08Run1 rfl) (by decide) ?_   -- t68 := load 9 t67
  refine QL.val (fun wq hq => Y.addS rfl rfl ((by rw [bs_size, bs_size, List.length_take]; omega))) (by decide) ?_   -- t69 := binOp add 9 t66 t68 9
  rw [bs_append]
  refine QL.val (fun wq hq => Y.move rfl) (by decide) ?_   -- t70 := move t11
  refine QL.val (fun wq hq => Y.move rfl) (by decide) ?_   -- t71 := move t10
  refine QL.val (fun wq hq => Y.strTail (i := k) Try.underlying9 rfl rfl (by omega) (by omega)) (by decide) ?_   -- t72 := slice 9 t70 t71 none none
  refine QL.val (fun wq hq => Y.addS rfl rfl ((by rw [bs_size, bs_size, List.length_drop, List.length_append, List.length_take]; omega))) (by decide) ?_   -- t73 := binOp add 9 t69 t72 9
  rw [bs_append]
  refine QL.val (fun wq hq => Y.eql_string rfl rfl) (by decide) ?_   -- t74 := binOp eql 9 t63 t73 9
  refine QL.val (fun wq hq => Y.assign rfl) (by decide) ?_   -- t6 := assign t74
  refine QL.nil fun w12 hx12 => ?_
  have hz12 := hx12.size
  have hE := hE.thenExt hx12
  have hB4 := hB4.ext hx12
  have hB5 := hB5.ext hx12
  refine hK18 _ _ ?_; try clear hK18 K18
  refine CW.ret ⟨_, rfl, ?_⟩
  exact ⟨by simp, hE⟩
end Go.Proofs.Ytffkmlkdlhkkmaa
