/- What must come: of four nodes, two of them side by side: alive, walked. No condition. -/
import Derived.Test.YtecolkngbcgmcaaN4
set_option linter.unusedSimpArgs false
set_option linter.unusedVariables false
namespace Go.Fw
open Go.RowKit
section
variable {P : Program} {n : NN} {fr : Fr} {w : World} {ty : TypeId}
theorem Y.sarr_lo {x lo : Operand} {t e : TypeId} {m k i : Nat} {ki : IntKind} {z : Int} {a : Addr} (hT : P.underlying t = some (.array m e)) (hx : ev fr x = some (.pointer (some a))) (hlo : ev fr lo = some (.int ki z)) (hS : (P.info? e).map (·.size) = some k) (hz : z = (i : Int)) (h1 : i < m) :
    Yw P n fr (.slice t x (some lo) none none) ty w (.slice (some (a.add (i * k))) (m - i) (m - i)) w := fun b o' ho _ ha => by
  subst hz
  have e2 : (0 : Int) ≤ (i : Int) := by omega
  have e3 : ¬ m = i := by omega
  simp [execOp, ho, ha.ev hx, ha.ev hlo, Instr.sliceAt, Instr.sureAddr, run_underlying hT, Instr.sliceBounds, Instr.sliceBound, asIntOf, e2, Nat.le_of_lt h1, fw_sizeOf hS, e3]
theorem Y.sarr_hi {x hi : Operand} {t e : TypeId} {m k j : Nat} {ki : IntKind} {z : Int} {a : Addr} (hT : P.underlying t = some (.array m e)) (hx : ev fr x = some (.pointer (some a))) (hhi : ev fr hi = some (.int ki z)) (hS : (P.info? e).map (·.size) = some k) (hz : z = (j : Int)) (h1 : j ≤ m) (h0 : 0 < m) :
    Yw P n fr (.slice t x none (some hi) none) ty w (.slice (some a) j m) w := fun b o' ho _ ha => by
  subst hz
  have e2 : (0 : Int) ≤ (j : Int) := by omega
  have e3 : ¬ m = 0 := by omega
  simp [execOp, ho, ha.ev hx, ha.ev hhi, Instr.sliceAt, Instr.sureAddr, run_underlying hT, Instr.sliceBounds, Instr.sliceBound, asIntOf, e2, h1, fw_sizeOf hS, Addr.add]
theorem Y.sarr_both {x lo hi : Operand} {t e : TypeId} {m k i j : Nat} {ki kj : IntKind} {zi zj : Int} {a : Addr} (hT : P.underlying t = some (.array m e)) (hx : ev fr x = some (.pointer (some a))) (hlo : ev fr lo = some (.int ki zi)) (hhi : ev fr hi = some (.int kj zj)) (hS : (P.info? e).map (·.size) = some k)
    (hi' : zi = (i : Int)) (hj' : zj = (j : Int)) (h1 : i ≤ j) (h2 : j ≤ m) (h3 : i < m := by decide) :
    Yw P n fr (.slice t x (some lo) (some hi) none) ty w (.slice (some (a.add (i * k))) (j - i) (m - i)) w := fun b o' ho _ ha => by
  subst hi'; subst hj'
  have e1 : (0 : Int) ≤ (i : Int) := by omega
  have e2 : (0 : Int) ≤ (j : Int) := by omega
  have e3 : ¬ m = i := by omega
  simp [execOp, ho, ha.ev hx, ha.ev hlo, ha.ev hhi, Instr.sliceAt, Instr.sureAddr, run_underlying hT, Instr.sliceBounds, Instr.sliceBound, asIntOf, e1, e2, h1, h2, fw_sizeOf hS, e3]
end
theorem Blk.own {w : World} {g : Nat} {e : TypeId} {k n : Nat} {cs : List Value} (h : Blk w g e cs) (hl : cs.length = n * k) (hn : n ≤ maxLen) : Own w e k (.slice (some ⟨g, 0, none⟩) n n) cs :=
  .inr ⟨g, n, n, [], (0, 0), rfl, by rw [List.append_nil]; exact h, hl, Nat.le_refl _, hn, by rw [List.append_nil]; exact hl, fun o _ => by simp⟩
theorem run_bs4 {P : Program} {t e : TypeId} {ie : TypeInfo} {z : Value} {a b c d : Value} (hu : P.underlying t = some (.slice e)) (hi : P.info? e = some ie) (hz : ie.zero = some z) (h0 : 0 < ie.size) (hl : ie.size ≤ 4096) (ha : a.cells.size = ie.size) (hb : b.cells.size = ie.size) (hc : c.cells.size = ie.size) (hd : d.cells.size = ie.size) (w : World) :
    (Instr.buildSlice t 4 [(0, a), (1, b), (2, c), (3, d)].toArray).run P w = .ok (.slice (some ⟨w.heap.size, 0, none⟩) 4 4) (w.alloc (.cells ([a, b, c, d].flatMap fun v => v.cells.toList).toArray e)) := by
  refine run_buildSlice w t e 4 _ _ ie z hu hi hz (by omega) (by omega) ?_
  have h := Go.Great.fill_whole (s := ie.size) h0 [a, b, c, d] ((Array.range (4 * ie.size)).map (z.cells[· % z.cells.size]!)) (by intro u hu; simp at hu; rcases hu with rfl | rfl | rfl | rfl <;> assumption) (by simp)
  simpa using h
end Go.Fw
namespace Go.Pl
open Go.Fw
def dg (b : UInt8) : Dig := ⟨b :: List.replicate 31 0, by simp⟩
def alA (x : Nat) : List Dig := (List.range 4).map fun i => if i < x then dg (UInt8.ofNat (i + 1)) else dg 0
theorem alA_length (x : Nat) : (alA x).length = 4 := by simp [alA]
def alN : List Nd := [⟨dg 1, []⟩, ⟨dg 2, [dg 1]⟩, ⟨dg 3, [dg 1]⟩, ⟨dg 4, [dg 2, dg 3]⟩]
theorem sortedD_is {l m : List Dig} (hl : l.Nodup) (hm : Up m) (h : ∀ x, x ∈ l ↔ x ∈ m) : sortedD l = m := up_eq (sortedD_up hl) hm fun x => by rw [sortedD_mem, h]
theorem alW1 : wrongQ alN [dg 1, dg 2, dg 3] = 0 := by decide +kernel
theorem alW2 : wrongQ alN ([dg 2] ++ [dg 3]) = 0 := by decide +kernel
theorem alW3 : wrongQ alN ([dg 4] ++ [dg 2]) = 0 := by decide +kernel
theorem alH1 : headsL alN (mark0 alN [dg 1, dg 2, dg 3]) = [dg 2, dg 3] := by
  have h : headsD alN (mark0 alN [dg 1, dg 2, dg 3]) alN.length (List.replicate alN.length false) [] = [dg 3, dg 2] := by decide +kernel
  rw [headsL, h]
  refine sortedD_is (by decide +kernel) (by decide +kernel) fun x => ?_
  simp only [List.mem_cons, List.not_mem_nil, or_false]
  exact or_comm
theorem alH2 : headsL alN (andB (markS alN [dg 2]) (markS alN [dg 3])) = [dg 1] := by
  have h : headsD alN (andB (markS alN [dg 2]) (markS alN [dg 3])) alN.length (List.replicate alN.length false) [] = [dg 1] := by decide +kernel
  rw [headsL, h]
  exact sortedD_is (by decide +kernel) (by decide +kernel) fun x => Iff.rfl
theorem alL3 : lacksL alN [dg 4] [dg 2] = [dg 3, dg 4] := by decide +kernel
end Go.Pl
namespace Go.Proofs.Ytecolkngbcgmcaa
open Go.RowKit Go.Fw Go.Pl Go.Sort
abbrev TA4 : TypeId := 65
def alV (g : Nat) : List NdV := [⟨⟨dg 1, []⟩, none, 0⟩, ⟨⟨dg 2, [dg 1]⟩, some ⟨g, 0, none⟩, 4⟩, ⟨⟨dg 3, [dg 1]⟩, some ⟨g, 0, none⟩, 4⟩, ⟨⟨dg 4, [dg 2, dg 3]⟩, some ⟨g, 32, none⟩, 3⟩]
theorem alV_nds (g : Nat) : ndsL (alV g) = alN := rfl
theorem info_arr4 : ∃ i : TypeInfo, Try.prog.info? TA4 = some i ∧ i.zero = some (.agg (flatD (alA 0)).toArray) := by
  have h : (Try.prog.info? TA4).map (fun i => i.zero) = some (some (.agg (flatD (alA 0)).toArray)) := by kernel_rfl
  cases hi : Try.prog.info? TA4 with
  | none => simp [hi] at h
  | some i => simp [hi] at h; exact ⟨i, rfl, h⟩
theorem al_step : ∀ {x : Nat}, x < 4 → flatD (alA x) = (flatD (alA x)).take (32 * x) ++ [bc 0] ++ (flatD (alA x)).drop (32 * x + 1) ∧ flatD (alA (x + 1)) = (flatD (alA x)).take (32 * x) ++ [.int .u8 (IntKind.u8.wrap ((x : Int) + 1))] ++ (flatD (alA x)).drop (32 * x + 1)
  | 0, _ => ⟨by kernel_rfl, by kernel_rfl⟩
  | 1, _ => ⟨by kernel_rfl, by kernel_rfl⟩
  | 2, _ => ⟨by kernel_rfl, by kernel_rfl⟩
  | 3, _ => ⟨by kernel_rfl, by kernel_rfl⟩
  | x + 4, h => by omega
theorem al_mem {w : World} {g : Nat} {t : TypeId} {l : List Dig} (hB : Blk w g t (flatD l)) (i : Nat) {d : Dig} (hd : l[i]? = some d) : Mem w ((⟨g, 0, none⟩ : Addr).add (i * 32)) (digC d) :=
  hB.mem.sub (i * 32) fun j v hj => flat_at digC_length l i d hd j v hj
theorem al_four : alA 4 = [dg 1, dg 2, dg 3, dg 4] := by decide +kernel
theorem al_cut {w : World} {g : Nat} {t : TypeId} (hB : Blk w g t (flatD [dg 1, dg 2, dg 3, dg 4])) (i j : Nat) (ds : List Dig) (he : (([dg 1, dg 2, dg 3, dg 4].drop i).take (j - i)) = ds) (hij : i ≤ j) (hj : j ≤ 4) (hi : i < 4) : Sl w digC 32 (.slice (some ((⟨g, 0, none⟩ : Addr).add (i * 32))) (j - i) (4 - i)) ds := by
  have hO := hB.own (k := 32) (n := 4) (by rw [flat_length digC_length]; rfl) (by unfold maxLen; omega)
  have h := (hO.sl digC_length (by decide)).cut hij hj
  rwa [if_neg (by omega), he] at h
theorem al_hi {w : World} {g : Nat} {t : TypeId} (hB : Blk w g t (flatD [dg 1, dg 2, dg 3, dg 4])) (j : Nat) (ds : List Dig) (he : ([dg 1, dg 2, dg 3, dg 4].take j) = ds) (hj : j ≤ 4) : Sl w digC 32 (.slice (some ⟨g, 0, none⟩) j 4) ds := by
  have hO := hB.own (k := 32) (n := 4) (by rw [flat_length digC_length]; rfl) (by unfold maxLen; omega)
  have h := (hO.sl digC_length (by decide)).cut (Nat.zero_le j) hj
  rw [if_neg (by omega), List.drop_zero, Nat.sub_zero, Nat.sub_zero, Nat.zero_mul, he] at h
  exact h
theorem build_n1 (w : World) : (Instr.build TNo [(0, digV (dg 1))].toArray).run Try.prog w = .ok (ndV ⟨⟨dg 1, []⟩, none, 0⟩) w := run_build w _ _ _ (by kernel_rfl)
theorem build_n2 (A : Option Addr) (m c : Nat) (w : World) : (Instr.build TNo [(0, digV (dg 2)), (1, .slice A m c)].toArray).run Try.prog w = .ok (.agg (digC (dg 2) ++ [Value.slice A m c]).toArray) w := run_build w _ _ _ (by kernel_rfl)
theorem build_n3 (A : Option Addr) (m c : Nat) (w : World) : (Instr.build TNo [(0, digV (dg 3)), (1, .slice A m c)].toArray).run Try.prog w = .ok (.agg (digC (dg 3) ++ [Value.slice A m c]).toArray) w := run_build w _ _ _ (by kernel_rfl)
theorem build_n4 (A : Option Addr) (m c : Nat) (w : World) : (Instr.build TNo [(0, digV (dg 4)), (1, .slice A m c)].toArray).run Try.prog w = .ok (.agg (digC (dg 4) ++ [Value.slice A m c]).toArray) w := run_build w _ _ _ (by kernel_rfl)
theorem bs4_nd (a b c d : NdV) (w : World) : (Instr.buildSlice TSn 4 [(0, ndV a), (1, ndV b), (2, ndV c), (3, ndV d)].toArray).run Try.prog w = .ok (.slice (some ⟨w.heap.size, 0, none⟩) 4 4) (w.alloc (.cells (([a, b, c, d].map ndC).flatten).toArray TNo)) := by
  obtain ⟨i, hi, hz, hs⟩ := info_apiNode
  have h1 : ∀ x : NdV, (ndV x).cells.size = i.size := fun x => by rw [hs]; show (ndC x).toArray.size = 33; simp [ndC_length]
  have h := run_bs4 (P := Try.prog) Try.underlying22 hi hz (by omega) (by omega) (h1 a) (h1 b) (h1 c) (h1 d) w
  have hc : ∀ x : NdV, (ndV x).cells.toList = ndC x := fun x => by show (ndC x).toArray.toList = _; simp
  have e : ([ndV a, ndV b, ndV c, ndV d].flatMap fun v => v.cells.toList) = ([a, b, c, d].map ndC).flatten := by
    simp only [List.flatMap_cons, List.flatMap_nil, List.map_cons, List.map_nil, List.flatten_cons, List.flatten_nil, hc]
  rw [h, e]
theorem al_nds {w : World} {g gn : Nat} (hBn : Blk w gn TNo (((alV g).map ndC).flatten)) (hB : Blk w g TA4 (flatD [dg 1, dg 2, dg 3, dg 4])) : Nds w (.slice (some ⟨gn, 0, none⟩) 4 4) (alV g) := by
  refine ⟨(hBn.own (k := 33) (n := 4) (by rw [flat_length ndC_length]; rfl) (by unfold maxLen; omega)).sl ndC_length (by decide), fun x hx => ?_⟩
  simp only [alV, List.mem_cons, List.not_mem_nil, or_false] at hx
  rcases hx with rfl | rfl | rfl | rfl
  · exact Sl.nil
  · exact al_hi hB 1 [dg 1] rfl (by decide)
  · exact al_hi hB 1 [dg 1] rfl (by decide)
  · exact al_cut hB 1 3 [dg 2, dg 3] rfl (by decide) (by decide) (by decide)

set_option maxRecDepth 100000 in
set_option maxHeartbeats 2000000 in
theorem alive_any (w : World) : Calls Try.prog 18 #[] w (Ret fun v w' => v = .bool true ∧ Ext w w') := by
  obtain ⟨i4, hi4, hz4⟩ := info_arr4
  refine calls_of_CW 81 [0] [] Try.func18 rfl rfl rfl (by simp) args0 ?_
  have hE : Ext w w := Chg.refl
  refine CW.seq fun K1 hK1 => ?_
  refine CW.region ?_   -- region 0
  refine WL.val (Y.assign rfl) (by decide) ?_   -- t0 := assign c(false)
  refine WL.nil ?_
  refine hK1 _ _ ?_; try clear hK1 K1
  refine CW.seq fun K2 hK2 => ?_
  refine CW.region ?_   -- region 1
  refine WL.alloc (hi4) (hz4) rfl (by decide) fun g1 w1 hx1 hg1 hB1 => ?_   -- t1 := alloc 65
  have hlt1 := hB1.lt; have hz1 := hx1.size
  have hM1 := hB1.mem; have hz1 := hx1.size; have hE := hE.thenExt hx1
  refine WL.nil ?_
  refine hK2 _ _ ?_; try clear hK2 K2
  refine CW.seq fun K3 hK3 => ?_
  refine CW.seq fun K4 hK4 => ?_
  refine CW.region ?_   -- region 2
  refine WL.val (Y.assign rfl) (by decide) ?_   -- t2 := assign c(0:i64)
  refine WL.nil ?_
  refine hK4 _ _ ?_; try clear hK4 K4
  refine CW.block ?_   -- block 0
  refine CW.loop (X := Nat) (fun x => [(1, .pointer (some ⟨g1, 0, none⟩)), (2, .int .i64 (x : Int))]) (fun x w0 => x ≤ 4 ∧ Blk w0 g1 TA4 (flatD (alA x)) ∧ Ext w w0) (fun x => 4 - x) 0 (by repeat (first | exact Fr.le.nil | refine Fr.le.cons rfl ?_)) ⟨Nat.zero_le _, hB1, hE⟩ ?_
  intro x w2 hl2
  clear hE hB1
  obtain ⟨hxl, hB1, hE⟩ := hl2
  have hlt1 := hB1.lt
  refine CW.seq fun K5 hK5 => ?_
  refine CW.seq fun K6 hK6 => ?_
  refine CW.region ?_   -- region 3
  refine WL.val (Y.move rfl) (by decide) ?_   -- t10 := move t2
  refine WL.val (Y.lss rfl rfl) (by decide) ?_   -- t11 := binOp lss 3 t10 c(4:i64) 3
  refine WL.nil ?_
  refine hK6 _ _ ?_; try clear hK6 K6
  first | refine CW.condD rfl (fun ht7 => ?_) (fun ht7 => ?_) | refine CW.condND rfl (fun ht7 => ?_) (fun ht7 => ?_) | refine CW.condN rfl (fun ht7 => ?_) (fun ht7 => ?_) | refine CW.cond rfl (fun ht7 => ?_) (fun ht7 => ?_)
  · -- then
    refine CW.skip ?_
    refine hK5 _ _ ?_; try clear hK5 K5
    refine CW.seq fun K8 hK8 => ?_
    refine CW.block ?_   -- block 1
    have hx4 : x < 4 := by omega
    have hsp := al_step hx4
    refine CW.region ?_   -- region 5
    refine WL.val (Y.move rfl) (by decide) ?_   -- t14 := move t2
    refine WL.val (Y.move rfl) (by decide) ?_   -- t15 := move t2
    refine WL.val (Y.add rfl rfl ⟨by omega, by omega⟩) (by decide) ?_   -- t16 := binOp add 3 t15 c(1:i64) 3
    refine WL.val (Y.conv_int Try.underlying3 Try.underlying5 rfl) (by decide) ?_   -- t17 := convert 3 5 t16
    refine WL.val (Y.indexAddrAN Try.underlying65 rfl rfl sz0_apiDigest (by omega)) (by decide) ?_   -- t18 := indexAddr 65 t1 t14
    refine WL.val (Y.indexAddrAN (i := 0) Try.underlying45 rfl rfl sz0_uint8 (by decide)) (by decide) ?_   -- t19 := indexAddr 45 t18 c(0:i64)
    refine WL.store (g := g1) (pre := (flatD (alA x)).take (32 * x)) (old := [bc 0]) (post := (flatD (alA x)).drop (32 * x + 1)) (new := [.int .u8 (IntKind.u8.wrap ((x : Int) + 1))]) rfl (by rw [add_add, add_zero', List.length_take, flat_length digC_length, alA_length, Nat.min_eq_left (by omega)]; congr 1; omega) rfl rfl (by kernel_rfl) (by rw [← hsp.1]; exact hB1) (by first | (simp only [List.length_cons, List.length_nil, List.length_map, List.length_replicate, V8.ws, digC_length]; done) | rfl | (simp [digC_length, opC_length]; done) | (simp only [digC_length, opC_length]; omega)) (one1 rfl) (fun w3 hc3 hB3_ => ?_)   -- _ := store 5 t19 t17
    have hz3 := hc3.size; have hE := hE.step hc3 (fun k h => by omega)
    have hB1 : Blk w3 g1 TA4 (flatD (alA (x + 1))) := by rw [hsp.2]; exact hB3_
    refine WL.nil ?_
    refine hK8 _ _ ?_; try clear hK8 K8
    refine CW.region ?_   -- region 4
    refine WL.val (Y.move rfl) (by decide) ?_   -- t12 := move t2
    refine WL.val (Y.add rfl rfl ⟨by omega, by omega⟩) (by decide) ?_   -- t13 := binOp add 3 t12 c(1:i64) 3
    refine WL.val (Y.assign rfl) (by decide) ?_   -- t2 := assign t13
    refine WL.nil ?_
    exact ⟨x + 1, by show 4 - (x + 1) < 4 - x; omega, (by repeat (first | exact Fr.le.nil | refine Fr.le.cons rfl ?_)), by show x + 1 ≤ 4; omega, hB1, hE⟩
  -- else
  refine CW.exit ?_   -- exit 0
  refine hK3 _ _ ?_; try clear hK3 K3
  refine CW.seq fun K9 hK9 => ?_
  have hx4 : x = 4 := by omega
  subst hx4
  rw [al_four] at hB1
  refine CW.head 15 (by kernel_rfl) (by kernel_rfl) fun w4 hx4 => ?_   -- region 6
  skip; have hz4 := hx4.size; have hE := hE.thenExt hx4; have hB1 := hB1.ext hx4
  refine HL.val (Y.indexAddrAN (i := 0) Try.underlying65 rfl rfl sz0_apiDigest (by decide)) (by decide) ?_   -- t20 := indexAddr 65 t1 c(0:i64)
  refine HL.val (Y.load Try.underlying45 rfl (al_mem hB1 0 (d := dg 1) rfl) (sz_apiDigest _) rfl) (by decide) ?_   -- t21 := load 45 t20
  refine HL.val (Y.build rfl (build_n1 _)) (by decide) ?_   -- t22 := build 48 [(0,t21)]
  refine HL.val (Y.indexAddrAN (i := 1) Try.underlying65 rfl rfl sz0_apiDigest (by decide)) (by decide) ?_   -- t23 := indexAddr 65 t1 c(1:i64)
  refine HL.val (Y.load Try.underlying45 rfl (al_mem hB1 1 (d := dg 2) rfl) (sz_apiDigest _) rfl) (by decide) ?_   -- t24 := load 45 t23
  refine HL.val (Y.sarr_hi (j := 1) Try.underlying65 rfl rfl sz0_apiDigest rfl (by decide) (by decide)) (by decide) ?_   -- t25 := slice 65 t1 none c(1:i64) none
  refine HL.val (Y.build rfl (build_n2 _ _ _ _)) (by decide) ?_   -- t26 := build 48 [(0,t24), (1,t25)]
  refine HL.val (Y.indexAddrAN (i := 2) Try.underlying65 rfl rfl sz0_apiDigest (by decide)) (by decide) ?_   -- t27 := indexAddr 65 t1 c(2:i64)
  refine HL.val (Y.load Try.underlying45 rfl (al_mem hB1 2 (d := dg 3) rfl) (sz_apiDigest _) rfl) (by decide) ?_   -- t28 := load 45 t27
  refine HL.val (Y.sarr_hi (j := 1) Try.underlying65 rfl rfl sz0_apiDigest rfl (by decide) (by decide)) (by decide) ?_   -- t29 := slice 65 t1 none c(1:i64) none
  refine HL.val (Y.build rfl (build_n3 _ _ _ _)) (by decide) ?_   -- t30 := build 48 [(0,t28), (1,t29)]
  refine HL.val (Y.indexAddrAN (i := 3) Try.underlying65 rfl rfl sz0_apiDigest (by decide)) (by decide) ?_   -- t31 := indexAddr 65 t1 c(3:i64)
  refine HL.val (Y.load Try.underlying45 rfl (al_mem hB1 3 (d := dg 4) rfl) (sz_apiDigest _) rfl) (by decide) ?_   -- t32 := load 45 t31
  refine HL.val (Y.sarr_both (i := 1) (j := 3) Try.underlying65 rfl rfl rfl sz0_apiDigest rfl rfl (by decide) (by decide)) (by decide) ?_   -- t33 := slice 65 t1 c(1:i64) c(3:i64) none
  refine HL.val (Y.build rfl (build_n4 _ _ _ _)) (by decide) ?_   -- t34 := build 48 [(0,t32), (1,t33)]
  refine HL.nil ?_
  refine WL.st (St.buildSlice rfl (bs4_nd ⟨⟨dg 1, []⟩, none, 0⟩ ⟨⟨dg 2, [dg 1]⟩, some ⟨g1, 0, none⟩, 4⟩ ⟨⟨dg 3, [dg 1]⟩, some ⟨g1, 0, none⟩, 4⟩ ⟨⟨dg 4, [dg 2, dg 3]⟩, some ⟨g1, 32, none⟩, 3⟩)) (by decide) fun v35 w5 hR5 => ?_   -- t35 := buildSlice 22 4 [(0,t22), (1,t26), (2,t30), (3,t34)]
  obtain ⟨gn, rfl, hgn, hBn, hx5⟩ := hR5
  have hz5 := hx5.size
  have hE := hE.thenExt hx5
  have hB1 := hB1.ext hx5
  have hN := al_nds hBn hB1
  refine WL.val (Y.assign rfl) (by decide) ?_   -- t3 := assign t35
  refine WL.nil ?_
  refine hK9 _ _ ?_; try clear hK9 K9
  refine CW.seq fun K10 hK10 => ?_
  refine CW.region ?_   -- region 7
  refine WL.val (Y.move rfl) (by decide) ?_   -- t37 := move t3
  refine WL.val (Y.sarr_hi (j := 3) Try.underlying65 rfl rfl sz0_apiDigest rfl (by decide) (by decide)) (by decide) ?_   -- t38 := slice 65 t1 none c(3:i64) none
  refine WL.call Try.func14 rfl rfl rfl (gHeads_any _ _ (alV g1) [dg 1, dg 2, dg 3] _ hN (al_hi hB1 3 [dg 1, dg 2, dg 3] rfl (by decide))) (by simp) ?_; rintro v39 w6 hR6   -- t39 := call F14(t37, t38) : 22,23
  obtain ⟨hv4, rfl, hO4, hf4, hx6⟩ := hR6
  have hz6 := hx6.size
  have hE := hE.thenExt hx6
  have hB1 := hB1.ext hx6
  have hN := hN.ext hx6
  have hw1 : wrongQ (ndsL (alV g1)) [dg 1, dg 2, dg 3] = 0 := alW1
  rw [hw1, if_pos rfl, show headsL (ndsL (alV g1)) (mark0 (ndsL (alV g1)) [dg 1, dg 2, dg 3]) = [dg 2, dg 3] from alH1] at hO4
  rw [hw1]
  have hS4 := hO4.sl digC_length (by decide)
  refine WL.val (Y.move rfl) (by decide) ?_   -- t36 := move t39
  refine WL.val (Y.extract rfl rfl) (by decide) ?_   -- t40 := extract t36 0
  refine WL.val (Y.extract rfl rfl) (by decide) ?_   -- t41 := extract t36 1
  refine WL.val (Y.assign rfl) (by decide) ?_   -- t4 := assign t40
  refine WL.val (Y.assign rfl) (by decide) ?_   -- t5 := assign t41
  refine WL.nil ?_
  refine hK10 _ _ ?_; try clear hK10 K10
  refine CW.seq fun K11 hK11 => ?_
  refine CW.held (fun wq => Ext w6 wq) (by kernel_rfl) 9 rfl fun w7 hS => ?_
  refine RH.take 0 (fun _ _ _ _ h => h) (by kernel_rfl) hS rfl (by kernel_rfl) (by kernel_rfl) (fun wq hq => Y.move rfl) (by decide) ?_   -- t43 := move t3
  refine RH.take 1 (fun _ _ _ _ h => h) (by kernel_rfl) hS rfl (by kernel_rfl) (by kernel_rfl) (fun wq hq => Y.sarr_both (i := 1) (j := 2) Try.underlying65 rfl rfl rfl sz0_apiDigest rfl rfl (by decide) (by decide)) (by decide) ?_   -- t44 := slice 65 t1 c(1:i64) c(2:i64) none
  refine RH.take 2 (fun _ _ _ _ h => h) (by kernel_rfl) hS rfl (by kernel_rfl) (by kernel_rfl) (fun wq hq => Y.sarr_both (i := 2) (j := 3) Try.underlying65 rfl rfl rfl sz0_apiDigest rfl rfl (by decide) (by decide)) (by decide) ?_   -- t45 := slice 65 t1 c(2:i64) c(3:i64) none
  refine RH.one 3 (by kernel_rfl) ?_
  refine RS.call rfl (fun _ _ h => by cases h) Try.func28 rfl rfl rfl (gCommon_any _ _ _ (alV g1) [dg 2] [dg 3] _ (hN.ext hS) (al_cut (hB1.ext hS) 1 2 [dg 2] rfl (by decide) (by decide) (by decide)) (al_cut (hB1.ext hS) 2 3 [dg 3] rfl (by decide) (by decide) (by decide))) (by decide) fun v46 w8 hR8 => ?_   -- call F28(t43, t44, t45) : 22,23,23
  obtain ⟨hv6, rfl, hO6, hf6, hx8⟩ := hR8
  have hS := hS.thenExt hx8
  have hw2 : wrongQ (ndsL (alV g1)) ([dg 2] ++ [dg 3]) = 0 := alW2
  rw [hw2, if_pos rfl, show headsL (ndsL (alV g1)) (andB (markS (ndsL (alV g1)) [dg 2]) (markS (ndsL (alV g1)) [dg 3])) = [dg 1] from alH2] at hO6
  rw [hw2]
  have hS6 := hO6.sl digC_length (by decide)
  refine ⟨hS, ?_⟩
  refine RH.take 4 (fun _ _ _ _ h => h) (by kernel_rfl) hS rfl (by kernel_rfl) (by kernel_rfl) (fun wq hq => Y.move rfl) (by decide) ?_   -- t42 := move t46
  refine RH.take 5 (fun _ _ _ _ h => h) (by kernel_rfl) hS rfl (by kernel_rfl) (by kernel_rfl) (fun wq hq => Y.extract rfl rfl) (by decide) ?_   -- t47 := extract t42 0
  refine RH.take 6 (fun _ _ _ _ h => h) (by kernel_rfl) hS rfl (by kernel_rfl) (by kernel_rfl) (fun wq hq => Y.extract rfl rfl) (by decide) ?_   -- t48 := extract t42 1
  refine RH.take 7 (fun _ _ _ _ h => h) (by kernel_rfl) hS rfl (by kernel_rfl) (by kernel_rfl) (fun wq hq => Y.assign rfl) (by decide) ?_   -- t6 := assign t47
  refine RH.take 8 (fun _ _ _ _ h => h) (by kernel_rfl) hS rfl (by kernel_rfl) (by kernel_rfl) (fun wq hq => Y.assign rfl) (by decide) ?_   -- t7 := assign t48
  refine RH.done (by kernel_rfl) ?_
  have hx9 := hS; have hz9 := hx9.size; have hE := hE.thenExt hx9; have hB1 := hB1.ext hx9
  refine hK11 _ _ ?_; try clear hK11 K11
  refine CW.seq fun K12 hK12 => ?_
  refine CW.held (fun wq => Ext w8 wq) (by kernel_rfl) 9 rfl fun w10 hS => ?_
  refine RH.take 0 (fun _ _ _ _ h => h) (by kernel_rfl) hS rfl (by kernel_rfl) (by kernel_rfl) (fun wq hq => Y.move rfl) (by decide) ?_   -- t50 := move t3
  refine RH.take 1 (fun _ _ _ _ h => h) (by kernel_rfl) hS rfl (by kernel_rfl) (by kernel_rfl) (fun wq hq => Y.sarr_lo (i := 3) Try.underlying65 rfl rfl sz0_apiDigest rfl (by decide)) (by decide) ?_   -- t51 := slice 65 t1 c(3:i64) none none
  refine RH.take 2 (fun _ _ _ _ h => h) (by kernel_rfl) hS rfl (by kernel_rfl) (by kernel_rfl) (fun wq hq => Y.sarr_both (i := 1) (j := 2) Try.underlying65 rfl rfl rfl sz0_apiDigest rfl rfl (by decide) (by decide)) (by decide) ?_   -- t52 := slice 65 t1 c(1:i64) c(2:i64) none
  refine RH.one 3 (by kernel_rfl) ?_
  refine RS.call rfl (fun _ _ h => by cases h) Try.func23 rfl rfl rfl (gLacks_any _ _ _ (alV g1) [dg 4] [dg 2] _ ((hN.ext hx9).ext hS) (al_cut (hB1.ext hS) 3 4 [dg 4] rfl (by decide) (by decide) (by decide)) (al_cut (hB1.ext hS) 1 2 [dg 2] rfl (by decide) (by decide) (by decide))) (by decide) fun v53 w11 hR11 => ?_   -- call F23(t50, t51, t52) : 22,23,23
  obtain ⟨hv8, rfl, hO8, hf8, hx11⟩ := hR11
  have hS := hS.thenExt hx11
  have hw3 : wrongQ (ndsL (alV g1)) ([dg 4] ++ [dg 2]) = 0 := alW3
  rw [hw3, if_pos rfl, show lacksL (ndsL (alV g1)) [dg 4] [dg 2] = [dg 3, dg 4] from alL3] at hO8
  rw [hw3]
  have hS8 := hO8.sl digC_length (by decide)
  refine ⟨hS, ?_⟩
  refine RH.take 4 (fun _ _ _ _ h => h) (by kernel_rfl) hS rfl (by kernel_rfl) (by kernel_rfl) (fun wq hq => Y.move rfl) (by decide) ?_   -- t49 := move t53
  refine RH.take 5 (fun _ _ _ _ h => h) (by kernel_rfl) hS rfl (by kernel_rfl) (by kernel_rfl) (fun wq hq => Y.extract rfl rfl) (by decide) ?_   -- t54 := extract t49 0
  refine RH.take 6 (fun _ _ _ _ h => h) (by kernel_rfl) hS rfl (by kernel_rfl) (by kernel_rfl) (fun wq hq => Y.extract rfl rfl) (by decide) ?_   -- t55 := extract t49 1
  refine RH.take 7 (fun _ _ _ _ h => h) (by kernel_rfl) hS rfl (by kernel_rfl) (by kernel_rfl) (fun wq hq => Y.assign rfl) (by decide) ?_   -- t8 := assign t54
  refine RH.take 8 (fun _ _ _ _ h => h) (by kernel_rfl) hS rfl (by kernel_rfl) (by kernel_rfl) (fun wq hq => Y.assign rfl) (by decide) ?_   -- t9 := assign t55
  refine RH.done (by kernel_rfl) ?_
  have hx12 := hS; have hz12 := hx12.size; have hE := hE.thenExt hx12; have hB1 := hB1.ext hx12
  refine hK12 _ _ ?_; try clear hK12 K12
  refine CW.seq fun K13 hK13 => ?_
  refine CW.region ?_   -- region 10
  refine WL.val (Y.move rfl) (by decide) ?_   -- t56 := move t5
  refine WL.val (Y.eql rfl rfl) (by decide) ?_   -- t57 := binOp eql 24 t56 c(0:i64) 24
  refine WL.val (Y.move rfl) (by decide) ?_   -- t58 := move t57
  refine WL.know (d := 58) (u := .bool true) rfl (by rw [decide_eq_true rfl]) ?_
  refine WL.gval rfl rfl (Y.move rfl) (by decide) ?_   -- t59 := move t7 [if 2=true]
  refine WL.gval rfl rfl (Y.eql rfl rfl) (by decide) ?_   -- t60 := binOp eql 24 t59 c(0:i64) 24 [if 2=true]
  refine WL.val (Y.pick rfl rfl) (by decide) ?_   -- t61 := pick t58 t60 c(false)
  refine WL.val (Y.move rfl) (by decide) ?_   -- t62 := move t61
  refine WL.know (d := 62) (u := .bool true) rfl (by rw [decide_eq_true rfl]) ?_
  refine WL.gval rfl rfl (Y.move rfl) (by decide) ?_   -- t63 := move t9 [if 6=true]
  refine WL.gval rfl rfl (Y.eql rfl rfl) (by decide) ?_   -- t64 := binOp eql 24 t63 c(0:i64) 24 [if 6=true]
  refine WL.val (Y.pick rfl rfl) (by decide) ?_   -- t65 := pick t62 t64 c(false)
  refine WL.val (Y.move rfl) (by decide) ?_   -- t66 := move t65
  refine WL.know (d := 66) (u := .bool true) rfl (by rw [decide_eq_true rfl]) ?_
  refine WL.gval rfl rfl (Y.move rfl) (by decide) ?_   -- t67 := move t4 [if 10=true]
  refine WL.gval rfl rfl (Y.sarr_both (i := 1) (j := 3) Try.underlying65 rfl rfl rfl sz0_apiDigest rfl rfl (by decide) (by decide)) (by decide) ?_   -- t68 := slice 65 t1 c(1:i64) c(3:i64) none [if 10=true]
  refine WL.gcall rfl rfl Try.func17 rfl rfl rfl (rSameD_any _ _ [dg 2, dg 3] [dg 2, dg 3] _ ((hS4.ext hx9).ext hx12) (al_cut hB1 1 3 [dg 2, dg 3] rfl (by decide) (by decide) (by decide))) (by decide) ?_; rintro v w13 ⟨rfl, hx13⟩; have hz13 := hx13.size; have hE := hE.thenExt hx13; have hB1 := hB1.ext hx13   -- t69 := call F17(t67, t68) : 23,23 [if 10=true]
  refine WL.val (Y.pick rfl rfl) (by decide) ?_   -- t70 := pick t66 t69 c(false)
  refine WL.val (Y.move rfl) (by decide) ?_   -- t71 := move t70
  refine WL.know (d := 71) (u := .bool true) rfl (by rw [decide_eq_true rfl]) ?_
  refine WL.gval rfl rfl (Y.move rfl) (by decide) ?_   -- t72 := move t6 [if 15=true]
  refine WL.gval rfl rfl (Y.sarr_hi (j := 1) Try.underlying65 rfl rfl sz0_apiDigest rfl (by decide) (by decide)) (by decide) ?_   -- t73 := slice 65 t1 none c(1:i64) none [if 15=true]
  refine WL.gcall rfl rfl Try.func17 rfl rfl rfl (rSameD_any _ _ [dg 1] [dg 1] _ ((hS6.ext hx12).ext hx13) (al_hi hB1 1 [dg 1] rfl (by decide))) (by decide) ?_; rintro v w14 ⟨rfl, hx14⟩; have hz14 := hx14.size; have hE := hE.thenExt hx14; have hB1 := hB1.ext hx14   -- t74 := call F17(t72, t73) : 23,23 [if 15=true]
  refine WL.val (Y.pick rfl rfl) (by decide) ?_   -- t75 := pick t71 t74 c(false)
  refine WL.val (Y.move rfl) (by decide) ?_   -- t76 := move t75
  refine WL.know (d := 76) (u := .bool true) rfl (by rw [decide_eq_true rfl]) ?_
  refine WL.gval rfl rfl (Y.move rfl) (by decide) ?_   -- t77 := move t8 [if 20=true]
  refine WL.gval rfl rfl (Y.sarr_lo (i := 2) Try.underlying65 rfl rfl sz0_apiDigest rfl (by decide)) (by decide) ?_   -- t78 := slice 65 t1 c(2:i64) none none [if 20=true]
  refine WL.gcall rfl rfl Try.func17 rfl rfl rfl (rSameD_any _ _ [dg 3, dg 4] [dg 3, dg 4] _ ((hS8.ext hx13).ext hx14) (al_cut hB1 2 4 [dg 3, dg 4] rfl (by decide) (by decide) (by decide))) (by decide) ?_; rintro v w15 ⟨rfl, hx15⟩; have hz15 := hx15.size; have hE := hE.thenExt hx15; have hB1 := hB1.ext hx15   -- t79 := call F17(t77, t78) : 23,23 [if 20=true]
  refine WL.val (Y.pick rfl rfl) (by decide) ?_   -- t80 := pick t76 t79 c(false)
  refine WL.val (Y.assign rfl) (by decide) ?_   -- t0 := assign t80
  refine WL.nil ?_
  refine hK13 _ _ ?_; try clear hK13 K13
  refine CW.ret ⟨_, rfl, ?_⟩
  exact ⟨by rw [decide_eq_true rfl], hE⟩
end Go.Proofs.Ytecolkngbcgmcaa
