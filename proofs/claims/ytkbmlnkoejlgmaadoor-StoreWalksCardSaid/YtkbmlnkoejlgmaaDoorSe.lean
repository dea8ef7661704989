/- digest.state's mixed, walked. No condition. -/
import Derived.Test.YtkbmlnkoejlgmaaDoorSc
set_option linter.unusedSimpArgs false
set_option linter.unusedVariables false
namespace Go.Fw
open Go.RowKit
theorem Mem.wdI {w : World} {a : Addr} {l : List UInt32} (h : Mem w a (wds l)) {z : Int} {j : Nat} {x : UInt32} (hz : z.toNat = j) (hx : l[j]? = some x) : w.cell? (a.add (z.toNat * 1)) = some (Go.Fw.wd x) := by
  rw [hz]; exact h.wd hx
theorem wds_mid (l r : List UInt32) (y : UInt32) : wds (l ++ y :: r) = wds l ++ [wd y] ++ wds r := by simp [wds]
end Go.Fw
namespace Go.Proofs.YtkbmlnkoejlgmaaDoor
open Go.RowKit Go.Fw Go.Pl
abbrev TS : TypeId := 74
abbrev T64 : TypeId := 90
def stV (v : V8) : Value := .agg (wds v.ws).toArray
theorem sz_u32 : (Tryd.prog.info? 72).map (·.size) = some 1 := by kernel_rfl
theorem sz_digeststate (v : V8) : (Tryd.prog.info? TS).map (·.size) = some (wds v.ws).length := by
  show _ = some 8
  kernel_rfl
theorem info_state : ∃ i : TypeInfo, Tryd.prog.info? TS = some i ∧ i.zero = some (.agg (wds (List.replicate 8 0)).toArray) ∧ i.size = 8 := by
  have h : (Tryd.prog.info? TS).map (fun i => (i.zero, i.size)) = some (some (.agg (wds (List.replicate 8 0)).toArray), 8) := by kernel_rfl
  cases hi : Tryd.prog.info? TS with
  | none => simp [hi] at h
  | some i => simp [hi] at h; exact ⟨i, rfl, by simpa using h.1, h.2⟩
theorem info_w64 : ∃ i : TypeInfo, Tryd.prog.info? T64 = some i ∧ i.zero = some (.agg (wds (List.replicate 64 0)).toArray) := by
  have h : (Tryd.prog.info? T64).map (fun i => i.zero) = some (some (.agg (wds (List.replicate 64 0)).toArray)) := by kernel_rfl
  cases hi : Tryd.prog.info? T64 with
  | none => simp [hi] at h
  | some i => simp [hi] at h; exact ⟨i, rfl, by simpa using h⟩
theorem as_digeststate {n : NN} {Φ : Exit → Fr → World → Prop} {fr : Fr} {w : World} {ops : Array Oper} {rest : List Oper} {d : Nat} {x : Operand} {ty ty' : TypeId} {pos pos' : String} {aft aft' : Array Edge} {v : V8}
    (hx : ev fr x = some (.agg (wds v.ws).toArray)) (hxd : x ≠ .tmp d) (hd : d < n.1)
    (h : ∀ g w', Ext w w' → w.heap.size ≤ g → Blk w' g TS (wds v.ws) → WL Tryd.prog ops n Φ rest ((d, .pointer (some ⟨g, 0, none⟩)) :: fr) w') :
    WL Tryd.prog ops n Φ (⟨some d, .alloc TS, ty, pos, aft, none⟩ :: ⟨none, .store TS (.tmp d) x, ty', pos', aft', none⟩ :: rest) fr w := by
  obtain ⟨i, hi, hz, hs⟩ := info_state
  exact WL.allocStore (cs := wds v.ws) (zs := wds (List.replicate 8 0)) hi hz rfl (by rw [hs]; rfl) rfl hx hxd rfl wds_one hd h
/-- While one word of the schedule is written. -/
def SW (g : Nat) (b : List UInt8) (x : Nat) (w0 wq : World) : Prop := Chg (· = g) w0 wq ∧ ∃ y, Blk wq g T64 (wds (schedN b x ++ y :: List.replicate (63 - x) 0))
theorem SW.ext {g : Nat} {b : List UInt8} {x : Nat} {w0 w1 w2 : World} (h : SW g b x w0 w1) (k : Ext w1 w2) : SW g b x w0 w2 := by
  obtain ⟨h1, y, h2⟩ := h
  exact ⟨h1.thenExt k, y, h2.ext k⟩

set_option maxRecDepth 20000 in
set_option maxHeartbeats 4000000 in
theorem mixed_any (s : V8) (u : Value) (b : List UInt8) (w : World) (hb : By w u b) (hlen : b.length = 64) (hK : Mem w ⟨0, 0, none⟩ (wds keysL)) : Calls Tryd.prog 36 #[stV s, u] w (Ret fun v w' => v = stV (mixV s b) ∧ Ext w w') := by
  obtain ⟨A, m, c, rfl⟩ := hb.lens
  obtain ⟨hm, hmc, hcm⟩ := hb.len
  obtain ⟨a, rfl, hba⟩ := hb.mem.1 (by omega)
  have hab : a.block < w.heap.size := hba.lt (fun h => by have := congrArg List.length h; rw [bytesC_length, hlen] at this; cases this)
  have hk0 : (0 : Nat) < w.heap.size := hK.lt (fun h => by cases h)
  obtain ⟨i9, hi9, hz9, _⟩ := info_state
  obtain ⟨i6, hi6, hz6⟩ := info_w64
  refine calls_of_CWc 185 4 8 [(0, stV s), (1, .slice (some a) m c)] Tryd.func36 rfl rfl rfl Tryd.underlying74 rfl (by kernel_rfl) (by simp) args2 ?_
  have hE : Ext w w := Chg.refl
  refine CW.seq fun K1 hK1 => ?_
  refine CW.region ?_   -- region 0
  refine WL.box rfl rfl (by decide) fun g2 w1 hx1 hg2 hB2 => ?_   -- t2 := box 74 t0
  have hlt2 := hB2.lt; have hz1 := hx1.size
  have hM2 := hB2.mem; have hz1 := hx1.size; have hE := hE.thenExt hx1
  refine WL.alloc (hi9) (hz9) rfl (by decide) fun g4 w2 hx2 hg4 hB4 => ?_   -- t4 := alloc 74
  have hlt4 := hB4.lt; have hz2 := hx2.size
  have hM4 := hB4.mem; have hz2 := hx2.size; have hE := hE.thenExt hx2; have hB2 := hB2.ext hx2
  refine WL.nil ?_
  refine hK1 _ _ ?_; try clear hK1 K1
  refine CW.seq fun K2 hK2 => ?_
  refine CW.region ?_   -- region 1
  refine WL.alloc (hi6) (hz6) rfl (by decide) fun g5 w3 hx3 hg5 hB5 => ?_   -- t5 := alloc 90
  have hlt5 := hB5.lt; have hz3 := hx3.size
  have hM5 := hB5.mem; have hz3 := hx3.size; have hE := hE.thenExt hx3; have hB2 := hB2.ext hx3; have hB4 := hB4.ext hx3
  refine WL.nil ?_
  refine hK2 _ _ ?_; try clear hK2 K2
  refine CW.seq fun K3 hK3 => ?_
  refine CW.seq fun K4 hK4 => ?_
  refine CW.region ?_   -- region 2
  refine WL.val (Y.move rfl) (by decide) ?_   -- t17 := move c(0:i64)
  refine WL.nil ?_
  refine hK4 _ _ ?_; try clear hK4 K4
  refine CW.block ?_   -- block 0
  refine CW.loop (X := Nat) (fun x => [(1, .slice (some a) m c), (2, .pointer (some ⟨g2, 0, none⟩)), (4, .pointer (some ⟨g4, 0, none⟩)), (5, .pointer (some ⟨g5, 0, none⟩)), (17, .int .i64 (x : Int))]) (fun x w0 => x ≤ 16 ∧ Ext w w0 ∧ Blk w0 g2 TS (wds s.ws) ∧ Blk w0 g4 TS (wds (List.replicate 8 0)) ∧ Blk w0 g5 T64 (wds (schedN b x ++ List.replicate (64 - x) 0)) ∧ w3.heap.size ≤ w0.heap.size) (fun x => 16 - x) 0 (by repeat (first | exact Fr.le.nil | refine Fr.le.cons rfl ?_)) ⟨Nat.zero_le _, hE, hB2, hB4, hB5, Nat.le_refl _⟩ ?_
  intro x w4 hl4
  obtain ⟨hx, hE, hB2, hB4, hB5, hzA⟩ := hl4
  have hbm := hba.ext hE
  have hz4 := hE.size
  refine CW.seq fun K5 hK5 => ?_
  refine CW.region ?_   -- region 3
  refine WL.val (Y.lss rfl rfl) (by decide) ?_   -- t18 := binOp lss 3 t17 c(16:i64) 3
  refine WL.nil ?_
  refine hK5 _ _ ?_; try clear hK5 K5
  refine CW.seq fun K6 hK6 => ?_
  first | refine CW.condD rfl (fun ht7 => ?_) (fun ht7 => ?_) | refine CW.condND rfl (fun ht7 => ?_) (fun ht7 => ?_) | refine CW.condN rfl (fun ht7 => ?_) (fun ht7 => ?_) | refine CW.cond rfl (fun ht7 => ?_) (fun ht7 => ?_)
  · -- then
    refine CW.skip ?_
    refine hK6 _ _ ?_; try clear hK6 K6
    refine CW.seq fun K8 hK8 => ?_
    refine CW.block ?_   -- block 1
    refine CW.seq fun K9 hK9 => ?_
    refine CW.region ?_   -- region 4
    refine WL.val (Y.move rfl) (by decide) ?_   -- t19 := move t17
    refine WL.val (Y.assign rfl) (by decide) ?_   -- t6 := assign t19
    refine WL.nil ?_
    refine hK9 _ _ ?_; try clear hK9 K9
    refine CW.held (fun wq => Chg (· = g5) w4 wq) (by kernel_rfl) 36 rfl fun w5 hx5 => ?_; have hz5 := hx5.size; have hE := hE.thenExt hx5; have hB2 := hB2.ext hx5; have hB4 := hB4.ext hx5; have hB5 := hB5.ext hx5
    have hS : Chg (· = g5) w4 w5 := hx5.mono fun _ _ f => f.elim
    refine RH.take 0 (fun _ _ _ _ h => h) (by kernel_rfl) hS rfl (by kernel_rfl) (by kernel_rfl) (fun wq hq => Y.move rfl) (by decide) ?_   -- t20 := move t6
    refine RH.take 1 (fun _ _ _ _ h => h) (by kernel_rfl) hS rfl (by kernel_rfl) (by kernel_rfl) (fun wq hq => Y.move rfl) (by decide) ?_   -- t21 := move t1
    refine RH.take 2 (fun _ _ _ _ h => h) (by kernel_rfl) hS rfl (by kernel_rfl) (by kernel_rfl) (fun wq hq => Y.move rfl) (by decide) ?_   -- t22 := move t6
    refine RH.take 3 (fun _ _ _ _ h => h) (by kernel_rfl) hS rfl (by kernel_rfl) (by kernel_rfl) (fun wq hq => Y.mul rfl rfl ⟨by omega, by omega⟩) (by decide) ?_   -- t23 := binOp mul 3 c(4:i64) t22 3
    refine RH.take 4 (fun _ _ _ _ h => h) (by kernel_rfl) hS rfl (by kernel_rfl) (by kernel_rfl) (fun wq hq => Y.indexAddrN Tryd.underlying26 rfl rfl sz0_uint8 (i := 4 * x) (by omega)) (by decide) ?_   -- t24 := indexAddr 26 t21 t23
    refine RH.take 5 (fun _ _ _ _ h => h) (by kernel_rfl) hS rfl (by kernel_rfl) (by kernel_rfl) (fun wq hq => Y.load1 Tryd.underlying5 rfl ((hbm.chg hq (by omega)).bt (by omega)) rfl) (by decide) ?_   -- t25 := load 5 t24
    refine RH.take 6 (fun _ _ _ _ h => h) (by kernel_rfl) hS rfl (by kernel_rfl) (by kernel_rfl) (fun wq hq => Y.conv8W Tryd.underlying5 Tryd.underlying72 rfl) (by decide) ?_   -- t26 := convert 5 72 t25
    refine RH.take 7 (fun _ _ _ _ h => h) (by kernel_rfl) hS rfl (by kernel_rfl) (by kernel_rfl) (fun wq hq => Y.shlW 24 rfl rfl rfl (by decide)) (by decide) ?_   -- t27 := binOp shl 72 t26 c(24:u64) 81
    refine RH.take 8 (fun _ _ _ _ h => h) (by kernel_rfl) hS rfl (by kernel_rfl) (by kernel_rfl) (fun wq hq => Y.move rfl) (by decide) ?_   -- t28 := move t1
    refine RH.take 9 (fun _ _ _ _ h => h) (by kernel_rfl) hS rfl (by kernel_rfl) (by kernel_rfl) (fun wq hq => Y.move rfl) (by decide) ?_   -- t29 := move t6
    refine RH.take 10 (fun _ _ _ _ h => h) (by kernel_rfl) hS rfl (by kernel_rfl) (by kernel_rfl) (fun wq hq => Y.mul rfl rfl ⟨by omega, by omega⟩) (by decide) ?_   -- t30 := binOp mul 3 c(4:i64) t29 3
    refine RH.take 11 (fun _ _ _ _ h => h) (by kernel_rfl) hS rfl (by kernel_rfl) (by kernel_rfl) (fun wq hq => Y.add rfl rfl ⟨by omega, by omega⟩) (by decide) ?_   -- t31 := binOp add 3 t30 c(1:i64) 3
    refine RH.take 12 (fun _ _ _ _ h => h) (by kernel_rfl) hS rfl (by kernel_rfl) (by kernel_rfl) (fun wq hq => Y.indexAddrN Tryd.underlying26 rfl rfl sz0_uint8 (i := 4 * x + 1) (by omega)) (by decide) ?_   -- t32 := indexAddr 26 t28 t31
    refine RH.take 13 (fun _ _ _ _ h => h) (by kernel_rfl) hS rfl (by kernel_rfl) (by kernel_rfl) (fun wq hq => Y.load1 Tryd.underlying5 rfl ((hbm.chg hq (by omega)).bt (by omega)) rfl) (by decide) ?_   -- t33 := load 5 t32
    refine RH.take 14 (fun _ _ _ _ h => h) (by kernel_rfl) hS rfl (by kernel_rfl) (by kernel_rfl) (fun wq hq => Y.conv8W Tryd.underlying5 Tryd.underlying72 rfl) (by decide) ?_   -- t34 := convert 5 72 t33
    refine RH.take 15 (fun _ _ _ _ h => h) (by kernel_rfl) hS rfl (by kernel_rfl) (by kernel_rfl) (fun wq hq => Y.shlW 16 rfl rfl rfl (by decide)) (by decide) ?_   -- t35 := binOp shl 72 t34 c(16:u64) 81
    refine RH.take 16 (fun _ _ _ _ h => h) (by kernel_rfl) hS rfl (by kernel_rfl) (by kernel_rfl) (fun wq hq => Y.orW rfl rfl) (by decide) ?_   -- t36 := binOp or 72 t27 t35 72
    refine RH.take 17 (fun _ _ _ _ h => h) (by kernel_rfl) hS rfl (by kernel_rfl) (by kernel_rfl) (fun wq hq => Y.move rfl) (by decide) ?_   -- t37 := move t1
    refine RH.take 18 (fun _ _ _ _ h => h) (by kernel_rfl) hS rfl (by kernel_rfl) (by kernel_rfl) (fun wq hq => Y.move rfl) (by decide) ?_   -- t38 := move t6
    refine RH.take 19 (fun _ _ _ _ h => h) (by kernel_rfl) hS rfl (by kernel_rfl) (by kernel_rfl) (fun wq hq => Y.mul rfl rfl ⟨by omega, by omega⟩) (by decide) ?_   -- t39 := binOp mul 3 c(4:i64) t38 3
    refine RH.take 20 (fun _ _ _ _ h => h) (by kernel_rfl) hS rfl (by kernel_rfl) (by kernel_rfl) (fun wq hq => Y.add rfl rfl ⟨by omega, by omega⟩) (by decide) ?_   -- t40 := binOp add 3 t39 c(2:i64) 3
    refine RH.take 21 (fun _ _ _ _ h => h) (by kernel_rfl) hS rfl (by kernel_rfl) (by kernel_rfl) (fun wq hq => Y.indexAddrN Tryd.underlying26 rfl rfl sz0_uint8 (i := 4 * x + 2) (by omega)) (by decide) ?_   -- t41 := indexAddr 26 t37 t40
    refine RH.take 22 (fun _ _ _ _ h => h) (by kernel_rfl) hS rfl (by kernel_rfl) (by kernel_rfl) (fun wq hq => Y.load1 Tryd.underlying5 rfl ((hbm.chg hq (by omega)).bt (by omega)) rfl) (by decide) ?_   -- t42 := load 5 t41
    refine RH.take 23 (fun _ _ _ _ h => h) (by kernel_rfl) hS rfl (by kernel_rfl) (by kernel_rfl) (fun wq hq => Y.conv8W Tryd.underlying5 Tryd.underlying72 rfl) (by decide) ?_   -- t43 := convert 5 72 t42
    refine RH.take 24 (fun _ _ _ _ h => h) (by kernel_rfl) hS rfl (by kernel_rfl) (by kernel_rfl) (fun wq hq => Y.shlW 8 rfl rfl rfl (by decide)) (by decide) ?_   -- t44 := binOp shl 72 t43 c(8:u64) 81
    refine RH.take 25 (fun _ _ _ _ h => h) (by kernel_rfl) hS rfl (by kernel_rfl) (by kernel_rfl) (fun wq hq => Y.orW rfl rfl) (by decide) ?_   -- t45 := binOp or 72 t36 t44 72
    refine RH.take 26 (fun _ _ _ _ h => h) (by kernel_rfl) hS rfl (by kernel_rfl) (by kernel_rfl) (fun wq hq => Y.move rfl) (by decide) ?_   -- t46 := move t1
    refine RH.take 27 (fun _ _ _ _ h => h) (by kernel_rfl) hS rfl (by kernel_rfl) (by kernel_rfl) (fun wq hq => Y.move rfl) (by decide) ?_   -- t47 := move t6
    refine RH.take 28 (fun _ _ _ _ h => h) (by kernel_rfl) hS rfl (by kernel_rfl) (by kernel_rfl) (fun wq hq => Y.mul rfl rfl ⟨by omega, by omega⟩) (by decide) ?_   -- t48 := binOp mul 3 c(4:i64) t47 3
    refine RH.take 29 (fun _ _ _ _ h => h) (by kernel_rfl) hS rfl (by kernel_rfl) (by kernel_rfl) (fun wq hq => Y.add rfl rfl ⟨by omega, by omega⟩) (by decide) ?_   -- t49 := binOp add 3 t48 c(3:i64) 3
    refine RH.take 30 (fun _ _ _ _ h => h) (by kernel_rfl) hS rfl (by kernel_rfl) (by kernel_rfl) (fun wq hq => Y.indexAddrN Tryd.underlying26 rfl rfl sz0_uint8 (i := 4 * x + 3) (by omega)) (by decide) ?_   -- t50 := indexAddr 26 t46 t49
    refine RH.take 31 (fun _ _ _ _ h => h) (by kernel_rfl) hS rfl (by kernel_rfl) (by kernel_rfl) (fun wq hq => Y.load1 Tryd.underlying5 rfl ((hbm.chg hq (by omega)).bt (by omega)) rfl) (by decide) ?_   -- t51 := load 5 t50
    refine RH.take 32 (fun _ _ _ _ h => h) (by kernel_rfl) hS rfl (by kernel_rfl) (by kernel_rfl) (fun wq hq => Y.conv8W Tryd.underlying5 Tryd.underlying72 rfl) (by decide) ?_   -- t52 := convert 5 72 t51
    refine RH.take 33 (fun _ _ _ _ h => h) (by kernel_rfl) hS rfl (by kernel_rfl) (by kernel_rfl) (fun wq hq => Y.orW rfl rfl) (by decide) ?_   -- t53 := binOp or 72 t45 t52 72
    refine RH.take 34 (fun _ _ _ _ h => h) (by kernel_rfl) hS rfl (by kernel_rfl) (by kernel_rfl) (fun wq hq => Y.indexAddrAN Tryd.underlying90 rfl rfl sz_u32 (by omega)) (by decide) ?_   -- t54 := indexAddr 90 t5 t20
    refine RH.one 35 (by kernel_rfl) ?_
    refine RS.store rfl (g := g5) (pre := wds (schedN b x)) (old := [wd 0]) (post := wds (List.replicate (63 - x) 0)) (new := [wd (wordB b x)]) rfl (by rw [add_zero', List.length_map, schedN_length, Nat.mul_one]) rfl rfl (by kernel_rfl) (by rw [← wds_mid, ← repl_split (by omega)]; exact hB5) (by first | (simp only [List.length_cons, List.length_nil, List.length_map, V8.ws]; done) | rfl) (one1 rfl) (fun w6 hc6 hB6_ => ?_)   -- store 72 t54 t53
    have hz6 := hc6.size; have hE := hE.step hc6 (fun k h => by omega); have hB2 := hB2.chg hc6 (fun h => by omega); have hB4 := hB4.chg hc6 (fun h => by omega)
    have hB5 := (show Blk w6 g5 T64 (wds (schedN b (x + 1) ++ List.replicate (64 - (x + 1)) 0)) by
      rw [sched_lo b (by omega), List.append_assoc, List.singleton_append, wds_mid, show 64 - (x + 1) = 63 - x by omega]; exact hB6_)
    have hS := hS.trans hc6 (fun _ _ h => h)
    refine ⟨hS, ?_⟩
    refine RH.done (by kernel_rfl) ?_
    refine hK8 _ _ ?_; try clear hK8 K8
    refine CW.region ?_   -- region 6
    refine WL.val (Y.add rfl rfl ⟨by omega, by omega⟩) (by decide) ?_   -- t55 := binOp add 3 t17 c(1:i64) 3
    refine WL.val (Y.move rfl) (by decide) ?_   -- t17 := move t55
    refine WL.nil ?_
    refine ⟨x + 1, by show 16 - (x + 1) < 16 - x; omega, (by repeat (first | exact Fr.le.nil | refine Fr.le.cons rfl ?_)), by show x + 1 ≤ 16; omega, hE, hB2, hB4, hB5, by omega⟩
  -- else
  refine CW.exit ?_   -- exit 0
  refine hK3 _ _ ?_; try clear hK3 K3
  refine CW.seq fun K10 hK10 => ?_
  refine CW.seq fun K11 hK11 => ?_
  refine CW.region ?_   -- region 7
  refine WL.val (Y.assign rfl) (by decide) ?_   -- t7 := assign c(16:i64)
  refine WL.nil ?_
  refine hK11 _ _ ?_; try clear hK11 K11
  refine CW.block ?_   -- block 2
  refine CW.loop (X := Nat) (fun x => [(2, .pointer (some ⟨g2, 0, none⟩)), (4, .pointer (some ⟨g4, 0, none⟩)), (5, .pointer (some ⟨g5, 0, none⟩)), (7, .int .i64 (x : Int))]) (fun x w0 => 16 ≤ x ∧ x ≤ 64 ∧ Ext w w0 ∧ Blk w0 g2 TS (wds s.ws) ∧ Blk w0 g4 TS (wds (List.replicate 8 0)) ∧ Blk w0 g5 T64 (wds (schedN b x ++ List.replicate (64 - x) 0)) ∧ w3.heap.size ≤ w0.heap.size) (fun x => 64 - x) 16 (by repeat (first | exact Fr.le.nil | refine Fr.le.cons rfl ?_)) ⟨Nat.le_refl _, by decide, hE, hB2, hB4, by rw [show x = 16 by omega] at hB5; exact hB5, hzA⟩ ?_
  intro x w7 hl7
  clear hB2 hB4 hB5 hE hx hbm
  obtain ⟨hxa, hxb, hE, hB2, hB4, hB5, hzB⟩ := hl7
  have hz7 := hE.size
  refine CW.seq fun K12 hK12 => ?_
  refine CW.seq fun K13 hK13 => ?_
  refine CW.region ?_   -- region 8
  refine WL.val (Y.move rfl) (by decide) ?_   -- t56 := move t7
  refine WL.val (Y.lss rfl rfl) (by decide) ?_   -- t57 := binOp lss 3 t56 c(64:i64) 3
  refine WL.nil ?_
  refine hK13 _ _ ?_; try clear hK13 K13
  first | refine CW.condD rfl (fun ht14 => ?_) (fun ht14 => ?_) | refine CW.condND rfl (fun ht14 => ?_) (fun ht14 => ?_) | refine CW.condN rfl (fun ht14 => ?_) (fun ht14 => ?_) | refine CW.cond rfl (fun ht14 => ?_) (fun ht14 => ?_)
  · -- then
    refine CW.skip ?_
    refine hK12 _ _ ?_; try clear hK12 K12
    refine CW.seq fun K15 hK15 => ?_
    refine CW.block ?_   -- block 3
    refine CW.seq fun K16 hK16 => ?_
    refine CW.quiet (fun wq => Ext w7 wq) (by kernel_rfl) (by kernel_rfl) Chg.drew ?_
    refine QL.val (fun wq hq => Y.move rfl) (by decide) ?_   -- t60 := move t7
    refine QL.val (fun wq hq => Y.sub rfl rfl ⟨by omega, by omega⟩) (by decide) ?_   -- t61 := binOp sub 3 t60 c(15:i64) 3
    refine QL.val (fun wq hq => Y.indexAddrA Tryd.underlying90 rfl rfl sz_u32 (by omega) (by omega)) (by decide) ?_   -- t62 := indexAddr 90 t5 t61
    refine QL.val (fun wq hq => Y.load1 Tryd.underlying72 rfl ((hB5.ext hq).mem.wdI (j := x - 15) (by omega) (sched_get2 (by omega))) rfl) (by decide) ?_   -- t63 := load 72 t62
    refine QL.val (fun wq hq => Y.move rfl) (by decide) ?_   -- t64 := move t7
    refine QL.val (fun wq hq => Y.sub rfl rfl ⟨by omega, by omega⟩) (by decide) ?_   -- t65 := binOp sub 3 t64 c(2:i64) 3
    refine QL.val (fun wq hq => Y.indexAddrA Tryd.underlying90 rfl rfl sz_u32 (by omega) (by omega)) (by decide) ?_   -- t66 := indexAddr 90 t5 t65
    refine QL.val (fun wq hq => Y.load1 Tryd.underlying72 rfl ((hB5.ext hq).mem.wdI (j := x - 2) (by omega) (sched_get2 (by omega))) rfl) (by decide) ?_   -- t67 := load 72 t66
    refine QL.val (fun wq hq => Y.assign rfl) (by decide) ?_   -- t8 := assign t63
    refine QL.val (fun wq hq => Y.assign rfl) (by decide) ?_   -- t9 := assign t67
    refine QL.nil fun w8 hx8 => ?_
    have hz8 := hx8.size
    have hE := hE.thenExt hx8
    have hB2 := hB2.ext hx8
    have hB4 := hB4.ext hx8
    have hB5 := hB5.ext hx8
    refine hK16 _ _ ?_; try clear hK16 K16
    refine CW.held (fun wq => SW g5 b x w8 wq) (by kernel_rfl) 30 rfl fun w9 hx9 => ?_; have hz9 := hx9.size; have hE := hE.thenExt hx9; have hB2 := hB2.ext hx9; have hB4 := hB4.ext hx9; have hB5 := hB5.ext hx9
    have hS : SW g5 b x w8 w9 := ⟨hx9.mono fun _ _ f => f.elim, 0, by rw [← repl_split (by omega)]; exact hB5⟩
    refine RH.take 0 (fun _ _ _ _ h => h) (by kernel_rfl) hS rfl (by kernel_rfl) (by kernel_rfl) (fun wq hq => Y.move rfl) (by decide) ?_   -- t68 := move t7
    refine RH.take 1 (fun _ _ _ _ h => h) (by kernel_rfl) hS rfl (by kernel_rfl) (by kernel_rfl) (fun wq hq => Y.move rfl) (by decide) ?_   -- t69 := move t7
    refine RH.take 2 (fun _ _ _ _ h => h) (by kernel_rfl) hS rfl (by kernel_rfl) (by kernel_rfl) (fun wq hq => Y.sub rfl rfl ⟨by omega, by omega⟩) (by decide) ?_   -- t70 := binOp sub 3 t69 c(16:i64) 3
    refine RH.take 3 (fun _ _ _ _ h => h) (by kernel_rfl) hS rfl (by kernel_rfl) (by kernel_rfl) (fun wq hq => Y.indexAddrA Tryd.underlying90 rfl rfl sz_u32 (by omega) (by omega)) (by decide) ?_   -- t71 := indexAddr 90 t5 t70
    refine RH.take 4 (fun _ _ _ _ h => h) (by kernel_rfl) hS rfl (by kernel_rfl) (by kernel_rfl) (fun wq hq => Y.load1 Tryd.underlying72 rfl (by obtain ⟨_, y, hq2⟩ := hq; exact hq2.mem.wdI (j := x - 16) (by omega) (sched_get2 (by omega))) rfl) (by decide) ?_   -- t72 := load 72 t71
    refine RH.take 5 (fun _ _ _ _ h => h) (by kernel_rfl) hS rfl (by kernel_rfl) (by kernel_rfl) (fun wq hq => Y.move rfl) (by decide) ?_   -- t73 := move t8
    refine RH.take 7 (fun _ _ _ _ h => h) (by kernel_rfl) hS rfl (by kernel_rfl) (by kernel_rfl) (fun wq hq => Y.move rfl) (by decide) ?_   -- t75 := move t8
    refine RH.take 10 (fun _ _ _ _ h => h) (by kernel_rfl) hS rfl (by kernel_rfl) (by kernel_rfl) (fun wq hq => Y.move rfl) (by decide) ?_   -- t78 := move t8
    refine RH.take 11 (fun _ _ _ _ h => h) (by kernel_rfl) hS rfl (by kernel_rfl) (by kernel_rfl) (fun wq hq => Y.shrW 3 rfl rfl rfl (by decide)) (by decide) ?_   -- t79 := binOp shr 72 t78 c(3:u64) 81
    refine RH.take 14 (fun _ _ _ _ h => h) (by kernel_rfl) hS rfl (by kernel_rfl) (by kernel_rfl) (fun wq hq => Y.move rfl) (by decide) ?_   -- t82 := move t7
    refine RH.take 15 (fun _ _ _ _ h => h) (by kernel_rfl) hS rfl (by kernel_rfl) (by kernel_rfl) (fun wq hq => Y.sub rfl rfl ⟨by omega, by omega⟩) (by decide) ?_   -- t83 := binOp sub 3 t82 c(7:i64) 3
    refine RH.take 16 (fun _ _ _ _ h => h) (by kernel_rfl) hS rfl (by kernel_rfl) (by kernel_rfl) (fun wq hq => Y.indexAddrA Tryd.underlying90 rfl rfl sz_u32 (by omega) (by omega)) (by decide) ?_   -- t84 := indexAddr 90 t5 t83
    refine RH.take 17 (fun _ _ _ _ h => h) (by kernel_rfl) hS rfl (by kernel_rfl) (by kernel_rfl) (fun wq hq => Y.load1 Tryd.underlying72 rfl (by obtain ⟨_, y, hq2⟩ := hq; exact hq2.mem.wdI (j := x - 7) (by omega) (sched_get2 (by omega))) rfl) (by decide) ?_   -- t85 := load 72 t84
    refine RH.take 19 (fun _ _ _ _ h => h) (by kernel_rfl) hS rfl (by kernel_rfl) (by kernel_rfl) (fun wq hq => Y.move rfl) (by decide) ?_   -- t87 := move t9
    refine RH.take 21 (fun _ _ _ _ h => h) (by kernel_rfl) hS rfl (by kernel_rfl) (by kernel_rfl) (fun wq hq => Y.move rfl) (by decide) ?_   -- t89 := move t9
    refine RH.take 24 (fun _ _ _ _ h => h) (by kernel_rfl) hS rfl (by kernel_rfl) (by kernel_rfl) (fun wq hq => Y.move rfl) (by decide) ?_   -- t92 := move t9
    refine RH.take 25 (fun _ _ _ _ h => h) (by kernel_rfl) hS rfl (by kernel_rfl) (by kernel_rfl) (fun wq hq => Y.shrW 10 rfl rfl rfl (by decide)) (by decide) ?_   -- t93 := binOp shr 72 t92 c(10:u64) 81
    refine RH.one 6 (by kernel_rfl) ?_
    refine RS.call rfl (fun _ _ h => by cases h) Tryd.func45 rfl rfl rfl (rightW_any _ 7 _ (by decide) (by decide)) (by decide) fun v74 w10 hR10 => ?_   -- call F45(t73, c(7:i64)) : 72,3
    obtain ⟨rfl, hy10⟩ := hR10
    have hz10 := hy10.size
    have hE := hE.thenExt hy10
    have hB2 := hB2.ext hy10
    have hB4 := hB4.ext hy10
    have hB5 := hB5.ext hy10
    have hS := hS.ext hy10
    refine ⟨hS, ?_⟩
    refine RH.one 8 (by kernel_rfl) ?_
    refine RS.call rfl (fun _ _ h => by cases h) Tryd.func45 rfl rfl rfl (rightW_any _ 18 _ (by decide) (by decide)) (by decide) fun v76 w11 hR11 => ?_   -- call F45(t75, c(18:i64)) : 72,3
    obtain ⟨rfl, hy11⟩ := hR11
    have hz11 := hy11.size
    have hE := hE.thenExt hy11
    have hB2 := hB2.ext hy11
    have hB4 := hB4.ext hy11
    have hB5 := hB5.ext hy11
    have hS := hS.ext hy11
    refine ⟨hS, ?_⟩
    refine RH.take 9 (fun _ _ _ _ h => h) (by kernel_rfl) hS rfl (by kernel_rfl) (by kernel_rfl) (fun wq hq => Y.xorW rfl rfl) (by decide) ?_   -- t77 := binOp xor 72 t74 t76 72
    refine RH.take 12 (fun _ _ _ _ h => h) (by kernel_rfl) hS rfl (by kernel_rfl) (by kernel_rfl) (fun wq hq => Y.xorW rfl rfl) (by decide) ?_   -- t80 := binOp xor 72 t77 t79 72
    refine RH.take 13 (fun _ _ _ _ h => h) (by kernel_rfl) hS rfl (by kernel_rfl) (by kernel_rfl) (fun wq hq => Y.addW rfl rfl) (by decide) ?_   -- t81 := binOp add 72 t72 t80 72
    refine RH.take 18 (fun _ _ _ _ h => h) (by kernel_rfl) hS rfl (by kernel_rfl) (by kernel_rfl) (fun wq hq => Y.addW rfl rfl) (by decide) ?_   -- t86 := binOp add 72 t81 t85 72
    refine RH.one 20 (by kernel_rfl) ?_
    refine RS.call rfl (fun _ _ h => by cases h) Tryd.func45 rfl rfl rfl (rightW_any _ 17 _ (by decide) (by decide)) (by decide) fun v88 w12 hR12 => ?_   -- call F45(t87, c(17:i64)) : 72,3
    obtain ⟨rfl, hy12⟩ := hR12
    have hz12 := hy12.size
    have hE := hE.thenExt hy12
    have hB2 := hB2.ext hy12
    have hB4 := hB4.ext hy12
    have hB5 := hB5.ext hy12
    have hS := hS.ext hy12
    refine ⟨hS, ?_⟩
    refine RH.one 22 (by kernel_rfl) ?_
    refine RS.call rfl (fun _ _ h => by cases h) Tryd.func45 rfl rfl rfl (rightW_any _ 19 _ (by decide) (by decide)) (by decide) fun v90 w13 hR13 => ?_   -- call F45(t89, c(19:i64)) : 72,3
    obtain ⟨rfl, hy13⟩ := hR13
    have hz13 := hy13.size
    have hE := hE.thenExt hy13
    have hB2 := hB2.ext hy13
    have hB4 := hB4.ext hy13
    have hB5 := hB5.ext hy13
    have hS := hS.ext hy13
    refine ⟨hS, ?_⟩
    refine RH.take 23 (fun _ _ _ _ h => h) (by kernel_rfl) hS rfl (by kernel_rfl) (by kernel_rfl) (fun wq hq => Y.xorW rfl rfl) (by decide) ?_   -- t91 := binOp xor 72 t88 t90 72
    refine RH.take 26 (fun _ _ _ _ h => h) (by kernel_rfl) hS rfl (by kernel_rfl) (by kernel_rfl) (fun wq hq => Y.xorW rfl rfl) (by decide) ?_   -- t94 := binOp xor 72 t91 t93 72
    refine RH.take 27 (fun _ _ _ _ h => h) (by kernel_rfl) hS rfl (by kernel_rfl) (by kernel_rfl) (fun wq hq => Y.addW rfl rfl) (by decide) ?_   -- t95 := binOp add 72 t86 t94 72
    refine RH.take 28 (fun _ _ _ _ h => h) (by kernel_rfl) hS rfl (by kernel_rfl) (by kernel_rfl) (fun wq hq => Y.indexAddrAN Tryd.underlying90 rfl rfl sz_u32 (by omega)) (by decide) ?_   -- t96 := indexAddr 90 t5 t68
    refine RH.one 29 (by kernel_rfl) ?_
    refine RS.store rfl (g := g5) (pre := wds (schedN b x)) (old := [wd 0]) (post := wds (List.replicate (63 - x) 0)) (new := [wd (nextAt b x)]) rfl (by rw [add_zero', List.length_map, schedN_length, Nat.mul_one]) rfl rfl (by kernel_rfl) (by rw [← wds_mid, ← repl_split (by omega)]; exact hB5) (by first | (simp only [List.length_cons, List.length_nil, List.length_map, V8.ws]; done) | rfl) (one1 rfl) (fun w14 hc14 hB14_ => ?_)   -- store 72 t96 t95
    have hz14 := hc14.size; have hE := hE.step hc14 (fun k h => by omega); have hB2 := hB2.chg hc14 (fun h => by omega); have hB4 := hB4.chg hc14 (fun h => by omega)
    have hB5 := (show Blk w14 g5 T64 (wds (schedN b (x + 1) ++ List.replicate (64 - (x + 1)) 0)) by
      rw [sched_hi b (by omega), List.append_assoc, List.singleton_append, wds_mid, show 64 - (x + 1) = 63 - x by omega]; exact hB14_)
    have hS : SW g5 b x w8 w14 := ⟨hS.1.trans hc14 (fun _ _ h => h), nextAt b x, by rw [wds_mid]; exact hB14_⟩
    refine ⟨hS, ?_⟩
    refine RH.done (by kernel_rfl) ?_
    refine hK15 _ _ ?_; try clear hK15 K15
    refine CW.region ?_   -- region 9
    refine WL.val (Y.move rfl) (by decide) ?_   -- t58 := move t7
    refine WL.val (Y.add rfl rfl ⟨by omega, by omega⟩) (by decide) ?_   -- t59 := binOp add 3 t58 c(1:i64) 3
    refine WL.val (Y.assign rfl) (by decide) ?_   -- t7 := assign t59
    refine WL.nil ?_
    refine ⟨x + 1, by show 64 - (x + 1) < 64 - x; omega, (by repeat (first | exact Fr.le.nil | refine Fr.le.cons rfl ?_)), by show 16 ≤ x + 1; omega, by show x + 1 ≤ 64; omega, hE, hB2, hB4, hB5, by omega⟩
  -- else
  refine CW.exit ?_   -- exit 2
  refine hK10 _ _ ?_; try clear hK10 K10
  refine CW.seq fun K17 hK17 => ?_
  have hB5 := (show Blk w7 g5 T64 (wds (schedN b 64)) by rw [show x = 64 by omega] at hB5; simpa using hB5)
  refine CW.region ?_   -- region 12
  refine WL.val (Y.load Tryd.underlying74 rfl hB2.mem (sz_digeststate _) rfl) (by decide) ?_   -- t97 := load 74 t2
  refine as_digeststate rfl (by simp) (by decide) fun g10 w15 hx15 hg10 hB10 => ?_   -- alloc 74; store 74 t10 t97
  have hlt10 := hB10.lt; have hz15 := hx15.size
  have hM10 := hB10.mem; have hz15 := hx15.size; have hE := hE.thenExt hx15; have hB2 := hB2.ext hx15; have hB4 := hB4.ext hx15; have hB5 := hB5.ext hx15
  refine WL.nil ?_
  refine hK17 _ _ ?_; try clear hK17 K17
  refine CW.seq fun K18 hK18 => ?_
  refine CW.seq fun K19 hK19 => ?_
  refine CW.region ?_   -- region 13
  refine WL.val (Y.move rfl) (by decide) ?_   -- t98 := move c(0:i64)
  refine WL.nil ?_
  refine hK19 _ _ ?_; try clear hK19 K19
  refine CW.block ?_   -- block 4
  refine CW.loop (X := Nat) (fun x => [(2, .pointer (some ⟨g2, 0, none⟩)), (4, .pointer (some ⟨g4, 0, none⟩)), (5, .pointer (some ⟨g5, 0, none⟩)), (10, .pointer (some ⟨g10, 0, none⟩)), (98, .int .i64 (x : Int))]) (fun x w0 => x ≤ 64 ∧ Ext w w0 ∧ Blk w0 g2 TS (wds s.ws) ∧ Blk w0 g4 TS (wds (List.replicate 8 0)) ∧ Blk w0 g5 T64 (wds (schedN b 64)) ∧ Blk w0 g10 TS (wds (rounds (schedN b 64) x s).ws)) (fun x => 64 - x) 0 (by repeat (first | exact Fr.le.nil | refine Fr.le.cons rfl ?_)) ⟨Nat.zero_le _, hE, hB2, hB4, hB5, hB10⟩ ?_
  intro x w16 hl16
  clear hB2 hB4 hB5 hE hxa hxb hB10
  obtain ⟨hx, hE, hB2, hB4, hB5, hB10⟩ := hl16
  obtain ⟨v, hv⟩ : ∃ v, v = rounds (schedN b 64) x s := ⟨_, rfl⟩
  rw [← hv] at hB10
  have hz16 := hE.size
  refine CW.seq fun K20 hK20 => ?_
  refine CW.region ?_   -- region 14
  refine WL.val (Y.lss rfl rfl) (by decide) ?_   -- t99 := binOp lss 3 t98 c(64:i64) 3
  refine WL.nil ?_
  refine hK20 _ _ ?_; try clear hK20 K20
  refine CW.seq fun K21 hK21 => ?_
  first | refine CW.condD rfl (fun ht22 => ?_) (fun ht22 => ?_) | refine CW.condND rfl (fun ht22 => ?_) (fun ht22 => ?_) | refine CW.condN rfl (fun ht22 => ?_) (fun ht22 => ?_) | refine CW.cond rfl (fun ht22 => ?_) (fun ht22 => ?_)
  · -- then
    refine CW.skip ?_
    refine hK21 _ _ ?_; try clear hK21 K21
    refine CW.seq fun K23 hK23 => ?_
    refine CW.block ?_   -- block 5
    refine CW.seq fun K24 hK24 => ?_
    refine CW.region ?_   -- region 15
    refine WL.val (Y.move rfl) (by decide) ?_   -- t100 := move t98
    refine WL.val (Y.assign rfl) (by decide) ?_   -- t11 := assign t100
    refine WL.nil ?_
    refine hK24 _ _ ?_; try clear hK24 K24
    refine CW.seq fun K25 hK25 => ?_
    refine CW.quiet (fun wq => Ext w16 wq) (by kernel_rfl) (by kernel_rfl) Chg.drew ?_
    refine QL.val (fun wq hq => Y.indexAddrAN (i := 4) Tryd.underlying74 rfl rfl sz_u32 (by decide)) (by decide) ?_   -- t101 := indexAddr 74 t10 c(4:i64)
    refine QL.val (fun wq hq => Y.load1 Tryd.underlying72 rfl ((hB10.ext hq).mem.wd (i := 4) rfl) rfl) (by decide) ?_   -- t102 := load 72 t101
    refine QL.val (fun wq hq => Y.indexAddrAN (i := 0) Tryd.underlying74 rfl rfl sz_u32 (by decide)) (by decide) ?_   -- t103 := indexAddr 74 t10 c(0:i64)
    refine QL.val (fun wq hq => Y.load1 Tryd.underlying72 rfl ((hB10.ext hq).mem.wd (i := 0) rfl) rfl) (by decide) ?_   -- t104 := load 72 t103
    refine QL.val (fun wq hq => Y.assign rfl) (by decide) ?_   -- t12 := assign t102
    refine QL.val (fun wq hq => Y.assign rfl) (by decide) ?_   -- t13 := assign t104
    refine QL.nil fun w17 hx17 => ?_
    have hz17 := hx17.size
    have hE := hE.thenExt hx17
    have hB2 := hB2.ext hx17
    have hB4 := hB4.ext hx17
    have hB5 := hB5.ext hx17
    have hB10 := hB10.ext hx17
    refine hK25 _ _ ?_; try clear hK25 K25
    refine CW.seq fun K26 hK26 => ?_
    refine CW.quiet (fun wq => Ext w17 wq) (by kernel_rfl) (by kernel_rfl) Chg.drew ?_
    refine QL.val (fun wq hq => Y.indexAddrAN (i := 7) Tryd.underlying74 rfl rfl sz_u32 (by decide)) (by decide) ?_   -- t105 := indexAddr 74 t10 c(7:i64)
    refine QL.val (fun wq hq => Y.load1 Tryd.underlying72 rfl ((hB10.ext hq).mem.wd (i := 7) rfl) rfl) (by decide) ?_   -- t106 := load 72 t105
    refine QL.val (fun wq hq => Y.move rfl) (by decide) ?_   -- t107 := move t12
    refine QL.call Tryd.func45 rfl rfl rfl (fun wq hq => ret_ext (rightW_any _ 6 _ (by decide) (by decide)) hq) (by simp) ?_   -- t108 := call F45(t107, c(6:i64)) : 72,3
    refine QL.val (fun wq hq => Y.move rfl) (by decide) ?_   -- t109 := move t12
    refine QL.call Tryd.func45 rfl rfl rfl (fun wq hq => ret_ext (rightW_any _ 11 _ (by decide) (by decide)) hq) (by simp) ?_   -- t110 := call F45(t109, c(11:i64)) : 72,3
    refine QL.val (fun wq hq => Y.xorW rfl rfl) (by decide) ?_   -- t111 := binOp xor 72 t108 t110 72
    refine QL.val (fun wq hq => Y.move rfl) (by decide) ?_   -- t112 := move t12
    refine QL.call Tryd.func45 rfl rfl rfl (fun wq hq => ret_ext (rightW_any _ 25 _ (by decide) (by decide)) hq) (by simp) ?_   -- t113 := call F45(t112, c(25:i64)) : 72,3
    refine QL.val (fun wq hq => Y.xorW rfl rfl) (by decide) ?_   -- t114 := binOp xor 72 t111 t113 72
    refine QL.val (fun wq hq => Y.addW rfl rfl) (by decide) ?_   -- t115 := binOp add 72 t106 t114 72
    refine QL.val (fun wq hq => Y.move rfl) (by decide) ?_   -- t116 := move t12
    refine QL.val (fun wq hq => Y.indexAddrAN (i := 5) Tryd.underlying74 rfl rfl sz_u32 (by decide)) (by decide) ?_   -- t117 := indexAddr 74 t10 c(5:i64)
    refine QL.val (fun wq hq => Y.load1 Tryd.underlying72 rfl ((hB10.ext hq).mem.wd (i := 5) rfl) rfl) (by decide) ?_   -- t118 := load 72 t117
    refine QL.val (fun wq hq => Y.andW rfl rfl) (by decide) ?_   -- t119 := binOp and 72 t116 t118 72
    refine QL.val (fun wq hq => Y.move rfl) (by decide) ?_   -- t120 := move t12
    refine QL.val (fun wq hq => Y.notW rfl) (by decide) ?_   -- t121 := unOp xor 72 t120
    refine QL.val (fun wq hq => Y.indexAddrAN (i := 6) Tryd.underlying74 rfl rfl sz_u32 (by decide)) (by decide) ?_   -- t122 := indexAddr 74 t10 c(6:i64)
    refine QL.val (fun wq hq => Y.load1 Tryd.underlying72 rfl ((hB10.ext hq).mem.wd (i := 6) rfl) rfl) (by decide) ?_   -- t123 := load 72 t122
    refine QL.val (fun wq hq => Y.andW rfl rfl) (by decide) ?_   -- t124 := binOp and 72 t121 t123 72
    refine QL.val (fun wq hq => Y.xorW rfl rfl) (by decide) ?_   -- t125 := binOp xor 72 t119 t124 72
    refine QL.val (fun wq hq => Y.addW rfl rfl) (by decide) ?_   -- t126 := binOp add 72 t115 t125 72
    refine QL.val (fun wq hq => Y.move rfl) (by decide) ?_   -- t127 := move t11
    refine QL.val (fun wq hq => Y.indexAddrAN Tryd.underlying90 rfl rfl sz_u32 (by omega)) (by decide) ?_   -- t128 := indexAddr 90 G0 t127
    refine QL.val (fun wq hq => Y.load1 Tryd.underlying72 rfl ((hK.ext (hE.thenExt hq)).wd (keys_get (by omega))) rfl) (by decide) ?_   -- t129 := load 72 t128
    refine QL.val (fun wq hq => Y.addW rfl rfl) (by decide) ?_   -- t130 := binOp add 72 t126 t129 72
    refine QL.val (fun wq hq => Y.move rfl) (by decide) ?_   -- t131 := move t11
    refine QL.val (fun wq hq => Y.indexAddrAN Tryd.underlying90 rfl rfl sz_u32 (by omega)) (by decide) ?_   -- t132 := indexAddr 90 t5 t131
    refine QL.val (fun wq hq => Y.load1 Tryd.underlying72 rfl ((hB5.ext hq).mem.wd (sched_get (by omega))) rfl) (by decide) ?_   -- t133 := load 72 t132
    refine QL.val (fun wq hq => Y.addW rfl rfl) (by decide) ?_   -- t134 := binOp add 72 t130 t133 72
    refine QL.val (fun wq hq => Y.assign rfl) (by decide) ?_   -- t14 := assign t134
    refine QL.nil fun w18 hx18 => ?_
    have hz18 := hx18.size
    have hE := hE.thenExt hx18
    have hB2 := hB2.ext hx18
    have hB4 := hB4.ext hx18
    have hB5 := hB5.ext hx18
    have hB10 := hB10.ext hx18
    refine hK26 _ _ ?_; try clear hK26 K26
    refine CW.seq fun K27 hK27 => ?_
    refine CW.quiet (fun wq => Ext w18 wq) (by kernel_rfl) (by kernel_rfl) Chg.drew ?_
    refine QL.val (fun wq hq => Y.move rfl) (by decide) ?_   -- t135 := move t13
    refine QL.call Tryd.func45 rfl rfl rfl (fun wq hq => ret_ext (rightW_any _ 2 _ (by decide) (by decide)) hq) (by simp) ?_   -- t136 := call F45(t135, c(2:i64)) : 72,3
    refine QL.val (fun wq hq => Y.move rfl) (by decide) ?_   -- t137 := move t13
    refine QL.call Tryd.func45 rfl rfl rfl (fun wq hq => ret_ext (rightW_any _ 13 _ (by decide) (by decide)) hq) (by simp) ?_   -- t138 := call F45(t137, c(13:i64)) : 72,3
    refine QL.val (fun wq hq => Y.xorW rfl rfl) (by decide) ?_   -- t139 := binOp xor 72 t136 t138 72
    refine QL.val (fun wq hq => Y.move rfl) (by decide) ?_   -- t140 := move t13
    refine QL.call Tryd.func45 rfl rfl rfl (fun wq hq => ret_ext (rightW_any _ 22 _ (by decide) (by decide)) hq) (by simp) ?_   -- t141 := call F45(t140, c(22:i64)) : 72,3
    refine QL.val (fun wq hq => Y.xorW rfl rfl) (by decide) ?_   -- t142 := binOp xor 72 t139 t141 72
    refine QL.val (fun wq hq => Y.move rfl) (by decide) ?_   -- t143 := move t13
    refine QL.val (fun wq hq => Y.indexAddrAN (i := 1) Tryd.underlying74 rfl rfl sz_u32 (by decide)) (by decide) ?_   -- t144 := indexAddr 74 t10 c(1:i64)
    refine QL.val (fun wq hq => Y.load1 Tryd.underlying72 rfl ((hB10.ext hq).mem.wd (i := 1) rfl) rfl) (by decide) ?_   -- t145 := load 72 t144
    refine QL.val (fun wq hq => Y.andW rfl rfl) (by decide) ?_   -- t146 := binOp and 72 t143 t145 72
    refine QL.val (fun wq hq => Y.move rfl) (by decide) ?_   -- t147 := move t13
    refine QL.val (fun wq hq => Y.indexAddrAN (i := 2) Tryd.underlying74 rfl rfl sz_u32 (by decide)) (by decide) ?_   -- t148 := indexAddr 74 t10 c(2:i64)
    refine QL.val (fun wq hq => Y.load1 Tryd.underlying72 rfl ((hB10.ext hq).mem.wd (i := 2) rfl) rfl) (by decide) ?_   -- t149 := load 72 t148
    refine QL.val (fun wq hq => Y.andW rfl rfl) (by decide) ?_   -- t150 := binOp and 72 t147 t149 72
    refine QL.val (fun wq hq => Y.xorW rfl rfl) (by decide) ?_   -- t151 := binOp xor 72 t146 t150 72
    refine QL.val (fun wq hq => Y.indexAddrAN (i := 1) Tryd.underlying74 rfl rfl sz_u32 (by decide)) (by decide) ?_   -- t152 := indexAddr 74 t10 c(1:i64)
    refine QL.val (fun wq hq => Y.load1 Tryd.underlying72 rfl ((hB10.ext hq).mem.wd (i := 1) rfl) rfl) (by decide) ?_   -- t153 := load 72 t152
    refine QL.val (fun wq hq => Y.indexAddrAN (i := 2) Tryd.underlying74 rfl rfl sz_u32 (by decide)) (by decide) ?_   -- t154 := indexAddr 74 t10 c(2:i64)
    refine QL.val (fun wq hq => Y.load1 Tryd.underlying72 rfl ((hB10.ext hq).mem.wd (i := 2) rfl) rfl) (by decide) ?_   -- t155 := load 72 t154
    refine QL.val (fun wq hq => Y.andW rfl rfl) (by decide) ?_   -- t156 := binOp and 72 t153 t155 72
    refine QL.val (fun wq hq => Y.xorW rfl rfl) (by decide) ?_   -- t157 := binOp xor 72 t151 t156 72
    refine QL.val (fun wq hq => Y.addW rfl rfl) (by decide) ?_   -- t158 := binOp add 72 t142 t157 72
    refine QL.val (fun wq hq => Y.assign rfl) (by decide) ?_   -- t15 := assign t158
    refine QL.nil fun w19 hx19 => ?_
    have hz19 := hx19.size
    have hE := hE.thenExt hx19
    have hB2 := hB2.ext hx19
    have hB4 := hB4.ext hx19
    have hB5 := hB5.ext hx19
    have hB10 := hB10.ext hx19
    refine hK27 _ _ ?_; try clear hK27 K27
    refine CW.seq fun K28 hK28 => ?_
    refine CW.know (d := 14) (u := wd (rT v (keysL.getD x 0) ((schedN b 64).getD x 0))) rfl rfl ?_
    refine CW.know (d := 15) (u := wd (rU v)) rfl rfl ?_
    refine CW.held (fun wq => Chg (· = g10) w19 wq) (by kernel_rfl) 3 rfl fun w20 hx20 => ?_; have hz20 := hx20.size; have hE := hE.thenExt hx20; have hB2 := hB2.ext hx20; have hB4 := hB4.ext hx20; have hB5 := hB5.ext hx20; have hB10 := hB10.ext hx20
    have hS : Chg (· = g10) w19 w20 := hx20.mono fun _ _ f => f.elim
    refine RH.take 0 (fun _ _ _ _ h => h) (by kernel_rfl) hS rfl (by kernel_rfl) (by kernel_rfl) (fun wq hq => Y.slice_arr_lo (i := 1) Tryd.underlying74 rfl rfl sz_u32 rfl (by decide)) (by decide) ?_   -- t159 := slice 74 t10 c(1:i64) none none
    refine RH.take 1 (fun _ _ _ _ h => h) (by kernel_rfl) hS rfl (by kernel_rfl) (by kernel_rfl) (fun wq hq => Y.slice_arr_hi (j := 7) Tryd.underlying74 rfl rfl sz_u32 rfl (by decide) (by decide)) (by decide) ?_   -- t160 := slice 74 t10 none c(7:i64) none
    refine RH.one 2 (by kernel_rfl) ?_
    refine RS.st rfl (St.copy (pre := [wd v.a]) (old := wds [v.b, v.c, v.d, v.e, v.f, v.g, v.h]) (post := []) (news := wds [v.a, v.b, v.c, v.d, v.e, v.f, v.g]) Tryd.underlying85 sz_u32 rfl (by rw [add_zero']; rfl) rfl (show Mem _ _ (wds [v.a, v.b, v.c, v.d, v.e, v.f, v.g]) from hB10.mem.take 7) rfl hB10 rfl wds_one) (by decide) fun v161 w21 hR21 => ?_   -- call copy(t159, t160) : 85,85
    obtain ⟨-, hc21, hB21_⟩ := hR21
    have hz21 := hc21.size
    have hE := hE.step hc21 (fun k h => by omega)
    have hB2 := hB2.chg hc21 (fun h => by omega)
    have hB4 := hB4.chg hc21 (fun h => by omega)
    have hB5 := hB5.chg hc21 (fun h => by omega)
    have hB10 : Blk w21 g10 TS (wds [v.a, v.a, v.b, v.c, v.d, v.e, v.f, v.g]) := hB21_
    have hS := hS.trans hc21 (fun _ _ h => h)
    refine ⟨hS, ?_⟩
    refine RH.done (by kernel_rfl) ?_
    refine hK28 _ _ ?_; try clear hK28 K28
    refine CW.seq fun K29 hK29 => ?_
    refine CW.region ?_   -- region 20
    refine WL.val (Y.indexAddrAN (i := 4) Tryd.underlying74 rfl rfl sz_u32 (by decide)) (by decide) ?_   -- t162 := indexAddr 74 t10 c(4:i64)
    refine WL.val (Y.load1 Tryd.underlying72 rfl (hB10.mem.wd (i := 4) rfl) rfl) (by decide) ?_   -- t163 := load 72 t162
    refine WL.val (Y.move rfl) (by decide) ?_   -- t164 := move t14
    refine WL.val (Y.addW rfl rfl) (by decide) ?_   -- t165 := binOp add 72 t163 t164 72
    refine WL.val (Y.indexAddrAN (i := 4) Tryd.underlying74 rfl rfl sz_u32 (by decide)) (by decide) ?_   -- t166 := indexAddr 74 t10 c(4:i64)
    refine WL.store (g := g10) (pre := wds [v.a, v.a, v.b, v.c]) (old := [wd v.d]) (post := wds [v.e, v.f, v.g]) (new := [wd (v.d + (rT v (keysL.getD x 0) ((schedN b 64).getD x 0)))]) rfl (by rw [add_zero']; rfl) rfl rfl (by kernel_rfl) hB10 (by first | (simp only [List.length_cons, List.length_nil, List.length_map, List.length_replicate, V8.ws, digC_length]; done) | rfl | (simp [digC_length, opC_length]; done) | (simp only [digC_length, opC_length]; omega)) (one1 rfl) (fun w22 hc22 hB22_ => ?_)   -- _ := store 72 t166 t165
    have hz22 := hc22.size; have hE := hE.step hc22 (fun k h => by omega); have hB2 := hB2.chg hc22 (fun h => by omega); have hB4 := hB4.chg hc22 (fun h => by omega); have hB5 := hB5.chg hc22 (fun h => by omega)
    have hB10 : Blk w22 g10 TS (wds [v.a, v.a, v.b, v.c, v.d + (rT v (keysL.getD x 0) ((schedN b 64).getD x 0)), v.e, v.f, v.g]) := hB22_
    refine WL.nil ?_
    refine hK29 _ _ ?_; try clear hK29 K29
    refine CW.region ?_   -- region 21
    refine WL.val (Y.move rfl) (by decide) ?_   -- t167 := move t14
    refine WL.val (Y.move rfl) (by decide) ?_   -- t168 := move t15
    refine WL.val (Y.addW rfl rfl) (by decide) ?_   -- t169 := binOp add 72 t167 t168 72
    refine WL.val (Y.indexAddrAN (i := 0) Tryd.underlying74 rfl rfl sz_u32 (by decide)) (by decide) ?_   -- t170 := indexAddr 74 t10 c(0:i64)
    refine WL.store (g := g10) (pre := []) (old := [wd v.a]) (post := wds [v.a, v.b, v.c, v.d + (rT v (keysL.getD x 0) ((schedN b 64).getD x 0)), v.e, v.f, v.g]) (new := [wd ((rT v (keysL.getD x 0) ((schedN b 64).getD x 0)) + rU v)]) rfl (by rw [add_zero']; rfl) rfl rfl (by kernel_rfl) hB10 (by first | (simp only [List.length_cons, List.length_nil, List.length_map, List.length_replicate, V8.ws, digC_length]; done) | rfl | (simp [digC_length, opC_length]; done) | (simp only [digC_length, opC_length]; omega)) (one1 rfl) (fun w23 hc23 hB23_ => ?_)   -- _ := store 72 t170 t169
    have hz23 := hc23.size; have hE := hE.step hc23 (fun k h => by omega); have hB2 := hB2.chg hc23 (fun h => by omega); have hB4 := hB4.chg hc23 (fun h => by omega); have hB5 := hB5.chg hc23 (fun h => by omega)
    have hB10 : Blk w23 g10 TS (wds (rnd v (keysL.getD x 0) ((schedN b 64).getD x 0)).ws) := hB23_
    refine WL.nil ?_
    refine hK23 _ _ ?_; try clear hK23 K23
    refine CW.region ?_   -- region 22
    refine WL.val (Y.add rfl rfl ⟨by omega, by omega⟩) (by decide) ?_   -- t171 := binOp add 3 t98 c(1:i64) 3
    refine WL.val (Y.move rfl) (by decide) ?_   -- t98 := move t171
    refine WL.nil ?_
    refine ⟨x + 1, by show 64 - (x + 1) < 64 - x; omega, (by repeat (first | exact Fr.le.nil | refine Fr.le.cons rfl ?_)), by show x + 1 ≤ 64; omega, hE, hB2, hB4, hB5, ?_⟩
    show Blk _ g10 TS (wds (rounds (schedN b 64) (x + 1) s).ws)
    rw [rounds, ← hv]
    exact hB10
  -- else
  refine CW.exit ?_   -- exit 4
  refine hK18 _ _ ?_; try clear hK18 K18
  refine CW.seq fun K30 hK30 => ?_
  refine CW.seq fun K31 hK31 => ?_
  refine CW.region ?_   -- region 23
  refine WL.val (Y.move rfl) (by decide) ?_   -- t172 := move c(0:i64)
  refine WL.nil ?_
  refine hK31 _ _ ?_; try clear hK31 K31
  refine CW.block ?_   -- block 6
  refine CW.loop (X := Nat × List UInt32) (fun x => [(2, .pointer (some ⟨g2, 0, none⟩)), (4, .pointer (some ⟨g4, 0, none⟩)), (10, .pointer (some ⟨g10, 0, none⟩)), (172, .int .i64 (x.1 : Int))]) (fun x w0 => x.1 ≤ 8 ∧ x.2.length = 8 ∧ (∀ j, j < 8 → x.2[j]? = some (if j < x.1 then (rounds (schedN b 64) 64 s).ws.getD j 0 + s.ws.getD j 0 else (rounds (schedN b 64) 64 s).ws.getD j 0)) ∧ Ext w w0 ∧ Blk w0 g2 TS (wds s.ws) ∧ Blk w0 g4 TS (wds (List.replicate 8 0)) ∧ Blk w0 g10 TS (wds x.2) ∧ Blk w0 g5 T64 (wds (schedN b 64))) (fun x => 8 - x.1) (0, (rounds (schedN b 64) 64 s).ws) (by repeat (first | exact Fr.le.nil | refine Fr.le.cons rfl ?_)) ⟨Nat.zero_le _, rfl, (fun j hj => by rw [if_neg (by omega)]; exact ws_get hj), hE, hB2, hB4, by rw [show x = 64 by omega] at hv; rw [hv] at hB10; exact hB10, hB5⟩ ?_
  intro x w24 hl24
  clear hB2 hB4 hB5 hE hB10 hx
  obtain ⟨i, l⟩ := x
  dsimp only at hl24 ⊢
  obtain ⟨hi, hll, hlg, hE, hB2, hB4, hB10, hB5⟩ := hl24
  have hB2o := hB2
  have hz24 := hE.size
  refine CW.seq fun K32 hK32 => ?_
  refine CW.region ?_   -- region 24
  refine WL.val (Y.lss rfl rfl) (by decide) ?_   -- t173 := binOp lss 3 t172 c(8:i64) 3
  refine WL.nil ?_
  refine hK32 _ _ ?_; try clear hK32 K32
  refine CW.seq fun K33 hK33 => ?_
  first | refine CW.condD rfl (fun ht34 => ?_) (fun ht34 => ?_) | refine CW.condND rfl (fun ht34 => ?_) (fun ht34 => ?_) | refine CW.condN rfl (fun ht34 => ?_) (fun ht34 => ?_) | refine CW.cond rfl (fun ht34 => ?_) (fun ht34 => ?_)
  · -- then
    refine CW.skip ?_
    refine hK33 _ _ ?_; try clear hK33 K33
    refine CW.seq fun K35 hK35 => ?_
    refine CW.block ?_   -- block 7
    refine CW.seq fun K36 hK36 => ?_
    refine CW.region ?_   -- region 25
    refine WL.val (Y.move rfl) (by decide) ?_   -- t174 := move t172
    refine WL.val (Y.assign rfl) (by decide) ?_   -- t16 := assign t174
    refine WL.nil ?_
    refine hK36 _ _ ?_; try clear hK36 K36
    refine CW.held (fun wq => Chg (· = g10) w24 wq) (by kernel_rfl) 9 rfl fun w25 hx25 => ?_; have hz25 := hx25.size; have hE := hE.thenExt hx25; have hB2 := hB2.ext hx25; have hB4 := hB4.ext hx25; have hB5 := hB5.ext hx25; have hB10 := hB10.ext hx25
    have hS : Chg (· = g10) w24 w25 := hx25.mono fun _ _ f => f.elim
    refine RH.take 0 (fun _ _ _ _ h => h) (by kernel_rfl) hS rfl (by kernel_rfl) (by kernel_rfl) (fun wq hq => Y.move rfl) (by decide) ?_   -- t175 := move t16
    refine RH.take 1 (fun _ _ _ _ h => h) (by kernel_rfl) hS rfl (by kernel_rfl) (by kernel_rfl) (fun wq hq => Y.indexAddrAN Tryd.underlying74 rfl rfl sz_u32 (by omega)) (by decide) ?_   -- t176 := indexAddr 74 t10 t175
    refine RH.take 3 (fun _ _ _ _ h => h) (by kernel_rfl) hS rfl (by kernel_rfl) (by kernel_rfl) (fun wq hq => Y.move rfl) (by decide) ?_   -- t178 := move t16
    refine RH.take 4 (fun _ _ _ _ h => h) (by kernel_rfl) hS rfl (by kernel_rfl) (by kernel_rfl) (fun wq hq => Y.indexAddrAN Tryd.underlying74 rfl rfl sz_u32 (by omega)) (by decide) ?_   -- t179 := indexAddr 74 t2 t178
    refine RH.take 5 (fun _ _ _ _ h => h) (by kernel_rfl) hS rfl (by kernel_rfl) (by kernel_rfl) (fun wq hq => Y.load1 Tryd.underlying72 rfl ((hB2o.chg hq (by omega)).mem.wd (ws_get (by omega))) rfl) (by decide) ?_   -- t180 := load 72 t179
    refine RH.one 2 (by kernel_rfl) ?_
    refine RS.val rfl (Y.load1 Tryd.underlying72 rfl (hB10.mem.wd (show l[i]? = some ((rounds (schedN b 64) 64 s).ws.getD i 0) by rw [hlg i (by omega), if_neg (by omega)])) rfl) (by decide) ⟨hS, ?_⟩   -- t177 := load 72 t176
    refine RH.take 6 (fun _ _ _ _ h => h) (by kernel_rfl) hS rfl (by kernel_rfl) (by kernel_rfl) (fun wq hq => Y.addW rfl rfl) (by decide) ?_   -- t181 := binOp add 72 t177 t180 72
    refine RH.take 7 (fun _ _ _ _ h => h) (by kernel_rfl) hS rfl (by kernel_rfl) (by kernel_rfl) (fun wq hq => Y.indexAddrAN Tryd.underlying74 rfl rfl sz_u32 (by omega)) (by decide) ?_   -- t182 := indexAddr 74 t10 t175
    refine RH.one 8 (by kernel_rfl) ?_
    refine RS.store rfl (g := g10) (pre := wds (l.take i)) (old := [wd ((rounds (schedN b 64) 64 s).ws.getD i 0)]) (post := wds (l.drop (i + 1))) (new := [wd ((rounds (schedN b 64) 64 s).ws.getD i 0 + s.ws.getD i 0)]) rfl (by rw [add_zero', List.length_map, List.length_take, Nat.min_eq_left (by omega), Nat.mul_one]) rfl rfl (by kernel_rfl) (by
      have hlt : i < l.length := by omega
      have e0 := hlg i (by omega)
      rw [if_neg (by omega), List.getElem?_eq_getElem hlt, Option.some.injEq] at e0
      rw [← wds_mid, ← e0, ← List.drop_eq_getElem_cons hlt, List.take_append_drop]; exact hB10) (by first | (simp only [List.length_cons, List.length_nil, List.length_map, V8.ws]; done) | rfl) (one1 rfl) (fun w26 hc26 hB26_ => ?_)   -- store 72 t182 t181
    have hz26 := hc26.size; have hE := hE.step hc26 (fun k h => by omega); have hB2 := hB2.chg hc26 (fun h => by omega); have hB4 := hB4.chg hc26 (fun h => by omega); have hB5 := hB5.chg hc26 (fun h => by omega)
    have hB10 := (show Blk w26 g10 TS (wds (l.set i ((rounds (schedN b 64) 64 s).ws.getD i 0 + s.ws.getD i 0))) by
      rw [List.set_eq_take_append_cons_drop, if_pos (by omega), wds_mid]; exact hB26_)
    have hS := hS.trans hc26 (fun _ _ h => h)
    refine ⟨hS, ?_⟩
    refine RH.done (by kernel_rfl) ?_
    refine hK35 _ _ ?_; try clear hK35 K35
    refine CW.region ?_   -- region 27
    refine WL.val (Y.add rfl rfl ⟨by omega, by omega⟩) (by decide) ?_   -- t183 := binOp add 3 t172 c(1:i64) 3
    refine WL.val (Y.move rfl) (by decide) ?_   -- t172 := move t183
    refine WL.nil ?_
    refine ⟨(i + 1, l.set i ((rounds (schedN b 64) 64 s).ws.getD i 0 + s.ws.getD i 0)), by show 8 - (i + 1) < 8 - i; omega, (by repeat (first | exact Fr.le.nil | refine Fr.le.cons rfl ?_)), by show i + 1 ≤ 8; omega, by simpa using hll, ?_, hE, hB2, hB4, hB10, hB5⟩
    intro j hj
    show (l.set i ((rounds (schedN b 64) 64 s).ws.getD i 0 + s.ws.getD i 0))[j]? = some (if j < i + 1 then _ else _)
    rw [List.getElem?_set]
    by_cases he : i = j
    · subst he
      rw [if_pos rfl, if_pos (by omega), if_pos (by omega)]
    · rw [if_neg he, hlg j hj]
      by_cases h3 : j < i
      · rw [if_pos h3, if_pos (by omega)]
      · rw [if_neg h3, if_neg (by omega)]
  -- else
  refine CW.exit ?_   -- exit 6
  refine hK30 _ _ ?_; try clear hK30 K30
  refine CW.seq fun K37 hK37 => ?_
  have hl8 : l = ((rounds (schedN b 64) 64 s).add s).ws := by
    apply List.ext_getElem?
    intro j
    by_cases hj : j < 8
    · rw [hlg j hj, if_pos (by omega)]
      match j, hj with
      | 0, _ => rfl
      | 1, _ => rfl
      | 2, _ => rfl
      | 3, _ => rfl
      | 4, _ => rfl
      | 5, _ => rfl
      | 6, _ => rfl
      | 7, _ => rfl
    · rw [List.getElem?_eq_none (by omega), List.getElem?_eq_none (by show 8 ≤ j; omega)]
  rw [hl8] at hB10
  refine CW.region ?_   -- region 28
  refine WL.val (Y.load Tryd.underlying74 rfl hB10.mem (sz_digeststate _) rfl) (by decide) ?_   -- t184 := load 74 t10
  refine WL.store (g := g4) (pre := []) (old := wds (List.replicate 8 0)) (post := []) (new := wds (mixV s b).ws) rfl rfl rfl rfl (by kernel_rfl) (by simpa using hB4) (by first | (simp only [List.length_cons, List.length_nil, List.length_map, List.length_replicate, V8.ws, digC_length]; done) | rfl | (simp [digC_length, opC_length]; done) | (simp only [digC_length, opC_length]; omega)) (wds_one) (fun w27 hc27 hB27_ => ?_)   -- _ := store 74 t4 t184
  have hz27 := hc27.size; have hE := hE.step hc27 (fun k h => by omega); have hB2 := hB2.chg hc27 (fun h => by omega); have hB5 := hB5.chg hc27 (fun h => by omega); have hB10 := hB10.chg hc27 (fun h => by omega)
  have hB4 : Blk w27 g4 TS (wds (mixV s b).ws) := by simpa using hB27_
  refine WL.nil ?_
  refine hK37 _ _ ?_; try clear hK37 K37
  refine CW.ret ?_
  exact ⟨_, _, rfl, hB4.mem, rfl, rfl, hE⟩
end Go.Proofs.YtkbmlnkoejlgmaaDoor
