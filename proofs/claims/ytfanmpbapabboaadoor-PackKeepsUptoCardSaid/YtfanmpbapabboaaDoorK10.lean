/- Parts of a proof: what its last text leans on. No condition. -/
import Derived.Test.YtfanmpbapabboaaDoorK09
set_option linter.unusedSimpArgs false
set_option linter.unusedVariables false
/- digest.state's mixed, walked. No condition. -/
namespace Go.Fw
open Go.RowKit
theorem Mem.wdI {w : World} {a : Addr} {l : List UInt32} (h : Mem w a (wds l)) {z : Int} {j : Nat} {x : UInt32} (hz : z.toNat = j) (hx : l[j]? = some x) : w.cell? (a.add (z.toNat * 1)) = some (Go.Fw.wd x) := by
 rw [hz]; exact h.wd hx
theorem wds_mid (l r : List UInt32) (y : UInt32) : wds (l ++ y :: r) = wds l ++ [wd y] ++ wds r := by simp [wds]
end Go.Fw
namespace Go.Proofs.YtfanmpbapabboaaDoor
open Go.RowKit Go.Fw Go.Pl
abbrev TS : TypeId := 87
abbrev T64 : TypeId := 114
def stV (v : V8) : Value := .agg (wds v.ws).toArray
theorem sz_u32 : (Tryd.prog.info? 85).map (·.size) = some 1 := by kernel_rfl
theorem sz_digeststate (v : V8) : (Tryd.prog.info? TS).map (·.size) = some (wds v.ws).length := by
 show _ = some 8
 kernel_rfl
theorem info_state : ∃ i : TypeInfo, Tryd.prog.info? TS = some i ∧ i.zero = some (.agg (wds (List.replicate 8 0)).toArray) ∧ i.size = 8 := by
 have h : (Tryd.prog.info? TS).map (fun i => (i.zero, i.size)) = some (some (.agg (wds (List.replicate 8 0)).toArray), 8) := by kernel_rfl
 cases hi : Tryd.prog.info? TS with
 | none => simp [hi] at h
 | some i => simp [hi] at h; exact ⟨i, rfl, by simpa using h.1, h.2⟩
theorem info_w64 : ∃ i : TypeInfo, Tryd.prog.info? T64 = some i ∧ i.zero = some (.agg (wds (List.replicate 64 0)).toArray) := by
 have h : (Tryd.prog.info? T64).map (fun i => i.zero) = some (some (.agg (wds (List.replicate 64 0)).toArray)) := by kernel_rfl
 cases hi : Tryd.prog.info? T64 with
 | none => simp [hi] at h
 | some i => simp [hi] at h; exact ⟨i, rfl, by simpa using h⟩
theorem as_digeststate {n : NN} {Φ : Exit → Fr → World → Prop} {fr : Fr} {w : World} {ops : Array Oper} {rest : List Oper} {d : Nat} {x : Operand} {ty ty' : TypeId} {pos pos' : String} {aft aft' : Array Edge} {v : V8}
  (hx : ev fr x = some (.agg (wds v.ws).toArray)) (hxd : x ≠ .tmp d) (hd : d < n.1)
  (h : ∀ g w', Ext w w' → w.heap.size ≤ g → Blk w' g TS (wds v.ws) → WL Tryd.prog ops n Φ rest ((d, .pointer (some ⟨g, 0, none⟩)) :: fr) w') :
  WL Tryd.prog ops n Φ (⟨some d, .alloc TS, ty, pos, aft, none⟩ :: ⟨none, .store TS (.tmp d) x, ty', pos', aft', none⟩ :: rest) fr w := by
 obtain ⟨i, hi, hz, hs⟩ := info_state
 exact WL.allocStore (cs := wds v.ws) (zs := wds (List.replicate 8 0)) hi hz rfl (by rw [hs]; rfl) rfl hx hxd rfl wds_one hd h
def SW (g : Nat) (b : List UInt8) (x : Nat) (w0 wq : World) : Prop := Chg (· = g) w0 wq ∧ ∃ y, Blk wq g T64 (wds (schedN b x ++ y :: List.replicate (63 - x) 0))
theorem SW.ext {g : Nat} {b : List UInt8} {x : Nat} {w0 w1 w2 : World} (h : SW g b x w0 w1) (k : Ext w1 w2) : SW g b x w0 w2 := by
 obtain ⟨h1, y, h2⟩ := h
 exact ⟨h1.thenExt k, y, h2.ext k⟩
set_option maxRecDepth 20000 in
set_option maxHeartbeats 4000000 in
theorem mixed_any (s : V8) (u : Value) (b : List UInt8) (w : World) (hb : By w u b) (hlen : b.length = 64) (hK : Mem w ⟨0, 0, none⟩ (wds keysL)) : Calls Tryd.prog 37 #[stV s, u] w (Ret fun v w' => v = stV (mixV s b) ∧ Ext w w') := by
 obtain ⟨A, m, c, rfl⟩ := hb.lens
 obtain ⟨hm, hmc, hcm⟩ := hb.len
 obtain ⟨a, rfl, hba⟩ := hb.mem.1 om_
 have hab : a.block < w.heap.size := hba.lt (fun h => by have := congrArg List.length h; rw [bytesC_length, hlen] at this; cases this)
 have hk0 : (0 : Nat) < w.heap.size := hK.lt (fun h => by cases h)
 obtain ⟨i9, hi9, hz9, _⟩ := info_state
 obtain ⟨i6, hi6, hz6⟩ := info_w64
 refine calls_of_CWc 185 4 8 [(0, stV s), (1, .slice (some a) m c)] Tryd.func37 rfl rfl rfl Tryd.underlying87 rfl kr_ (by simp) args2 ?_
 have hE : Ext w w := Chg.refl
 refine CW.sr fun K1 hK1 => ?_
 refine WL.box rfl rfl de_ fun g2 w1 hx1 hg2 hB2 => ?_
 have hlt2 := hB2.lt; have hz1 := hx1.size
 have hM2 := hB2.mem; have hz1 := hx1.size; have hE := hE.thenExt hx1
 refine WL.alloc (hi9) (hz9) rfl de_ fun g4 w2 hx2 hg4 hB4 => ?_
 have hlt4 := hB4.lt; have hz2 := hx2.size
 have hM4 := hB4.mem; have hz2 := hx2.size; have hE := hE.thenExt hx2; have hB2 := hB2.ext hx2
 refine WL.nil (hK1 _ _ ?_); try clear hK1
 refine CW.sr fun K2 hK2 => ?_
 refine WL.alloc (hi6) (hz6) rfl de_ fun g5 w3 hx3 hg5 hB5 => ?_
 have hlt5 := hB5.lt; have hz3 := hx3.size
 have hM5 := hB5.mem; have hz3 := hx3.size; have hE := hE.thenExt hx3; have hB2 := hB2.ext hx3; have hB4 := hB4.ext hx3
 refine WL.nil (hK2 _ _ ?_); try clear hK2
 refine CW.seq fun K3 hK3 => ?_
 refine CW.sr fun K4 hK4 => ?_
 refine WL.m rfl ?_
 refine WL.nil (hK4 _ _ ?_); try clear hK4
 refine CW.block ?_
 refine CW.loop (X := Nat) (fun x => [(1, .slice (some a) m c), (2, .pointer (some ⟨g2, 0, none⟩)), (4, .pointer (some ⟨g4, 0, none⟩)), (5, .pointer (some ⟨g5, 0, none⟩)), (17, .int .i64 (x : Int))]) (fun x w0 => x ≤ 16 ∧ Ext w w0 ∧ Blk w0 g2 TS (wds s.ws) ∧ Blk w0 g4 TS (wds (List.replicate 8 0)) ∧ Blk w0 g5 T64 (wds (schedN b x ++ List.replicate (64 - x) 0)) ∧ w3.heap.size ≤ w0.heap.size) (fun x => 16 - x) 0 Fr.ok ⟨Nat.zero_le _, hE, hB2, hB4, hB5, Nat.le_refl _⟩ ?_
 intro x w4 hl4
 obtain ⟨hx, hE, hB2, hB4, hB5, hzA⟩ := hl4
 have hbm := hba.ext hE
 have hz4 := hE.size
 refine CW.sr fun K5 hK5 => ?_
 refine WL.v (Y.lss rfl rfl) ?_
 refine WL.nil (hK5 _ _ ?_); try clear hK5
 refine CW.seq fun K6 hK6 => ?_
 (first | refine cd_ rfl ?_ ?_ | refine ce_ rfl ?_ ?_ | refine cn_ rfl ?_ ?_ | refine cb_ rfl ?_ ?_) <;> intro ht7
 ·
  -- then
  refine CW.skip ?_
  refine hK6 _ _ ?_; try clear hK6
  refine CW.seq fun K8 hK8 => ?_
  refine CW.block ?_
  refine CW.sr fun K9 hK9 => ?_
  refine WL.m rfl ?_
  refine WL.a rfl ?_
  refine WL.nil (hK9 _ _ ?_); try clear hK9
  refine CW.held (fun wq => Chg (· = g5) w4 wq) kr_ 36 rfl fun w5 hx5 => ?_; have hz5 := hx5.size; have hE := hE.thenExt hx5; have hB2 := hB2.ext hx5; have hB4 := hB4.ext hx5; have hB5 := hB5.ext hx5
  have hS : Chg (· = g5) w4 w5 := hx5.mono fun _ _ f => f.elim
  refine RH.tk 0 hS rfl (fun wq hq => Y.move rfl) ?_
  refine RH.tk 1 hS rfl (fun wq hq => Y.move rfl) ?_
  refine RH.tk 2 hS rfl (fun wq hq => Y.move rfl) ?_
  refine RH.tk 3 hS rfl (fun wq hq => Y.mul rfl rfl o2_) ?_
  refine RH.tk 4 hS rfl (fun wq hq => Y.indexAddrN Tryd.underlying32 rfl rfl sz0_uint8 (i := 4 * x) om_) ?_
  refine RH.tk 5 hS rfl (fun wq hq => Y.load1 Tryd.underlying5 rfl ((hbm.chg hq om_).bt om_) rfl) ?_
  refine RH.tk 6 hS rfl (fun wq hq => Y.conv8W Tryd.underlying5 Tryd.underlying85 rfl) ?_
  refine RH.tk 7 hS rfl (fun wq hq => Y.shlW 24 rfl rfl rfl de_) ?_
  refine RH.tk 8 hS rfl (fun wq hq => Y.move rfl) ?_
  refine RH.tk 9 hS rfl (fun wq hq => Y.move rfl) ?_
  refine RH.tk 10 hS rfl (fun wq hq => Y.mul rfl rfl o2_) ?_
  refine RH.tk 11 hS rfl (fun wq hq => Y.add rfl rfl o2_) ?_
  refine RH.tk 12 hS rfl (fun wq hq => Y.indexAddrN Tryd.underlying32 rfl rfl sz0_uint8 (i := 4 * x + 1) om_) ?_
  refine RH.tk 13 hS rfl (fun wq hq => Y.load1 Tryd.underlying5 rfl ((hbm.chg hq om_).bt om_) rfl) ?_
  refine RH.tk 14 hS rfl (fun wq hq => Y.conv8W Tryd.underlying5 Tryd.underlying85 rfl) ?_
  refine RH.tk 15 hS rfl (fun wq hq => Y.shlW 16 rfl rfl rfl de_) ?_
  refine RH.tk 16 hS rfl (fun wq hq => Y.orW rfl rfl) ?_
  refine RH.tk 17 hS rfl (fun wq hq => Y.move rfl) ?_
  refine RH.tk 18 hS rfl (fun wq hq => Y.move rfl) ?_
  refine RH.tk 19 hS rfl (fun wq hq => Y.mul rfl rfl o2_) ?_
  refine RH.tk 20 hS rfl (fun wq hq => Y.add rfl rfl o2_) ?_
  refine RH.tk 21 hS rfl (fun wq hq => Y.indexAddrN Tryd.underlying32 rfl rfl sz0_uint8 (i := 4 * x + 2) om_) ?_
  refine RH.tk 22 hS rfl (fun wq hq => Y.load1 Tryd.underlying5 rfl ((hbm.chg hq om_).bt om_) rfl) ?_
  refine RH.tk 23 hS rfl (fun wq hq => Y.conv8W Tryd.underlying5 Tryd.underlying85 rfl) ?_
  refine RH.tk 24 hS rfl (fun wq hq => Y.shlW 8 rfl rfl rfl de_) ?_
  refine RH.tk 25 hS rfl (fun wq hq => Y.orW rfl rfl) ?_
  refine RH.tk 26 hS rfl (fun wq hq => Y.move rfl) ?_
  refine RH.tk 27 hS rfl (fun wq hq => Y.move rfl) ?_
  refine RH.tk 28 hS rfl (fun wq hq => Y.mul rfl rfl o2_) ?_
  refine RH.tk 29 hS rfl (fun wq hq => Y.add rfl rfl o2_) ?_
  refine RH.tk 30 hS rfl (fun wq hq => Y.indexAddrN Tryd.underlying32 rfl rfl sz0_uint8 (i := 4 * x + 3) om_) ?_
  refine RH.tk 31 hS rfl (fun wq hq => Y.load1 Tryd.underlying5 rfl ((hbm.chg hq om_).bt om_) rfl) ?_
  refine RH.tk 32 hS rfl (fun wq hq => Y.conv8W Tryd.underlying5 Tryd.underlying85 rfl) ?_
  refine RH.tk 33 hS rfl (fun wq hq => Y.orW rfl rfl) ?_
  refine RH.tk 34 hS rfl (fun wq hq => Y.indexAddrAN Tryd.underlying114 rfl rfl sz_u32 om_) ?_
  refine RH.one 35 kr_ ?_
  refine RS.store rfl (g := g5) (pre := wds (schedN b x)) (old := [wd 0]) (post := wds (List.replicate (63 - x) 0)) (new := [wd (wordB b x)]) rfl (by rw [add_zero', List.length_map, schedN_length, Nat.mul_one]) rfl rfl kr_ (by rw [← wds_mid, ← repl_split om_]; exact hB5) (by first | (simp only [List.length_cons, List.length_nil, List.length_map, V8.ws]; done) | rfl) (one1 rfl) (fun w6 hc6 hB6_ => ?_)
  have hz6 := hc6.size; have hE := hE.step hc6 (fun k h => by omega); have hB2 := hB2.chg hc6 no_; have hB4 := hB4.chg hc6 no_
  have hB5 := (show Blk w6 g5 T64 (wds (schedN b (x + 1) ++ List.replicate (64 - (x + 1)) 0)) by
   rw [sched_lo b om_, List.append_assoc, List.singleton_append, wds_mid, show 64 - (x + 1) = 63 - x by omega]; exact hB6_)
  have hS := hS.trans hc6 (fun _ _ h => h)
  refine ⟨hS, ?_⟩
  refine RH.done kr_ ?_
  refine hK8 _ _ ?_; try clear hK8
  refine CW.region ?_
  refine WL.v (Y.add rfl rfl o2_) ?_
  refine WL.m rfl ?_
  refine WL.nil ?_
  refine ⟨x + 1, by show 16 - (x + 1) < 16 - x; omega, Fr.ok, by show x + 1 ≤ 16; omega, hE, hB2, hB4, hB5, by omega⟩
 refine CW.exit ?_
 refine hK3 _ _ ?_; try clear hK3
 refine CW.seq fun K10 hK10 => ?_
 refine CW.sr fun K11 hK11 => ?_
 refine WL.a rfl ?_
 refine WL.nil (hK11 _ _ ?_); try clear hK11
 refine CW.block ?_
 refine CW.loop (X := Nat) (fun x => [(2, .pointer (some ⟨g2, 0, none⟩)), (4, .pointer (some ⟨g4, 0, none⟩)), (5, .pointer (some ⟨g5, 0, none⟩)), (7, .int .i64 (x : Int))]) (fun x w0 => 16 ≤ x ∧ x ≤ 64 ∧ Ext w w0 ∧ Blk w0 g2 TS (wds s.ws) ∧ Blk w0 g4 TS (wds (List.replicate 8 0)) ∧ Blk w0 g5 T64 (wds (schedN b x ++ List.replicate (64 - x) 0)) ∧ w3.heap.size ≤ w0.heap.size) (fun x => 64 - x) 16 Fr.ok ⟨Nat.le_refl _, by decide, hE, hB2, hB4, by rw [show x = 16 by omega] at hB5; exact hB5, hzA⟩ ?_
 intro x w7 hl7
 clear hB2 hB4 hB5 hE hx hbm
 obtain ⟨hxa, hxb, hE, hB2, hB4, hB5, hzB⟩ := hl7
 have hz7 := hE.size
 refine CW.seq fun K12 hK12 => ?_
 refine CW.sr fun K13 hK13 => ?_
 refine WL.m rfl ?_
 refine WL.v (Y.lss rfl rfl) ?_
 refine WL.nil (hK13 _ _ ?_); try clear hK13
 (first | refine cd_ rfl ?_ ?_ | refine ce_ rfl ?_ ?_ | refine cn_ rfl ?_ ?_ | refine cb_ rfl ?_ ?_) <;> intro ht14
 ·
  -- then
  refine CW.skip ?_
  refine hK12 _ _ ?_; try clear hK12
  refine CW.seq fun K15 hK15 => ?_
  refine CW.block ?_
  refine CW.seq fun K16 hK16 => ?_
  refine CW.quiet (fun wq => Ext w7 wq) kr_ kr_ Chg.drew ?_
  refine QL.m rfl ?_
  refine QL.v (fun wq hq => Y.sub rfl rfl o2_) ?_
  refine QL.v (fun wq hq => Y.indexAddrA Tryd.underlying114 rfl rfl sz_u32 om_ om_) ?_
  refine QL.v (fun wq hq => Y.load1 Tryd.underlying85 rfl ((hB5.ext hq).mem.wdI (j := x - 15) om_ (sched_get2 om_)) rfl) ?_
  refine QL.m rfl ?_
  refine QL.v (fun wq hq => Y.sub rfl rfl o2_) ?_
  refine QL.v (fun wq hq => Y.indexAddrA Tryd.underlying114 rfl rfl sz_u32 om_ om_) ?_
  refine QL.v (fun wq hq => Y.load1 Tryd.underlying85 rfl ((hB5.ext hq).mem.wdI (j := x - 2) om_ (sched_get2 om_)) rfl) ?_
  refine QL.a rfl ?_
  refine QL.a rfl ?_
  refine QL.nil fun w8 hx8 => ?_
  have hz8 := hx8.size
  have hE := hE.thenExt hx8
  have hB2 := hB2.ext hx8
  have hB4 := hB4.ext hx8
  have hB5 := hB5.ext hx8
  refine hK16 _ _ ?_; try clear hK16
  refine CW.held (fun wq => SW g5 b x w8 wq) kr_ 30 rfl fun w9 hx9 => ?_; have hz9 := hx9.size; have hE := hE.thenExt hx9; have hB2 := hB2.ext hx9; have hB4 := hB4.ext hx9; have hB5 := hB5.ext hx9
  have hS : SW g5 b x w8 w9 := ⟨hx9.mono fun _ _ f => f.elim, 0, by rw [← repl_split om_]; exact hB5⟩
  refine RH.tk 0 hS rfl (fun wq hq => Y.move rfl) ?_
  refine RH.tk 1 hS rfl (fun wq hq => Y.move rfl) ?_
  refine RH.tk 2 hS rfl (fun wq hq => Y.sub rfl rfl o2_) ?_
  refine RH.tk 3 hS rfl (fun wq hq => Y.indexAddrA Tryd.underlying114 rfl rfl sz_u32 om_ om_) ?_
  refine RH.tk 4 hS rfl (fun wq hq => Y.load1 Tryd.underlying85 rfl (by obtain ⟨_, y, hq2⟩ := hq; exact hq2.mem.wdI (j := x - 16) om_ (sched_get2 om_)) rfl) ?_
  refine RH.tk 5 hS rfl (fun wq hq => Y.move rfl) ?_
  refine RH.tk 7 hS rfl (fun wq hq => Y.move rfl) ?_
  refine RH.tk 10 hS rfl (fun wq hq => Y.move rfl) ?_
  refine RH.tk 11 hS rfl (fun wq hq => Y.shrW 3 rfl rfl rfl de_) ?_
  refine RH.tk 14 hS rfl (fun wq hq => Y.move rfl) ?_
  refine RH.tk 15 hS rfl (fun wq hq => Y.sub rfl rfl o2_) ?_
  refine RH.tk 16 hS rfl (fun wq hq => Y.indexAddrA Tryd.underlying114 rfl rfl sz_u32 om_ om_) ?_
  refine RH.tk 17 hS rfl (fun wq hq => Y.load1 Tryd.underlying85 rfl (by obtain ⟨_, y, hq2⟩ := hq; exact hq2.mem.wdI (j := x - 7) om_ (sched_get2 om_)) rfl) ?_
  refine RH.tk 19 hS rfl (fun wq hq => Y.move rfl) ?_
  refine RH.tk 21 hS rfl (fun wq hq => Y.move rfl) ?_
  refine RH.tk 24 hS rfl (fun wq hq => Y.move rfl) ?_
  refine RH.tk 25 hS rfl (fun wq hq => Y.shrW 10 rfl rfl rfl de_) ?_
  refine RH.one 6 kr_ ?_
  refine RS.call rfl (fun _ _ h => by cases h) Tryd.func55 rfl rfl rfl (rightW_any _ 7 _ de_ de_) de_ fun v74 w10 hR10 => ?_
  obtain ⟨rfl, hy10⟩ := hR10
  have hz10 := hy10.size
  have hE := hE.thenExt hy10
  have hB2 := hB2.ext hy10
  have hB4 := hB4.ext hy10
  have hB5 := hB5.ext hy10
  have hS := hS.ext hy10
  refine ⟨hS, ?_⟩
  refine RH.one 8 kr_ ?_
  refine RS.call rfl (fun _ _ h => by cases h) Tryd.func55 rfl rfl rfl (rightW_any _ 18 _ de_ de_) de_ fun v76 w11 hR11 => ?_
  obtain ⟨rfl, hy11⟩ := hR11
  have hz11 := hy11.size
  have hE := hE.thenExt hy11
  have hB2 := hB2.ext hy11
  have hB4 := hB4.ext hy11
  have hB5 := hB5.ext hy11
  have hS := hS.ext hy11
  refine ⟨hS, ?_⟩
  refine RH.tk 9 hS rfl (fun wq hq => Y.xorW rfl rfl) ?_
  refine RH.tk 12 hS rfl (fun wq hq => Y.xorW rfl rfl) ?_
  refine RH.tk 13 hS rfl (fun wq hq => Y.addW rfl rfl) ?_
  refine RH.tk 18 hS rfl (fun wq hq => Y.addW rfl rfl) ?_
  refine RH.one 20 kr_ ?_
  refine RS.call rfl (fun _ _ h => by cases h) Tryd.func55 rfl rfl rfl (rightW_any _ 17 _ de_ de_) de_ fun v88 w12 hR12 => ?_
  obtain ⟨rfl, hy12⟩ := hR12
  have hz12 := hy12.size
  have hE := hE.thenExt hy12
  have hB2 := hB2.ext hy12
  have hB4 := hB4.ext hy12
  have hB5 := hB5.ext hy12
  have hS := hS.ext hy12
  refine ⟨hS, ?_⟩
  refine RH.one 22 kr_ ?_
  refine RS.call rfl (fun _ _ h => by cases h) Tryd.func55 rfl rfl rfl (rightW_any _ 19 _ de_ de_) de_ fun v90 w13 hR13 => ?_
  obtain ⟨rfl, hy13⟩ := hR13
  have hz13 := hy13.size
  have hE := hE.thenExt hy13
  have hB2 := hB2.ext hy13
  have hB4 := hB4.ext hy13
  have hB5 := hB5.ext hy13
  have hS := hS.ext hy13
  refine ⟨hS, ?_⟩
  refine RH.tk 23 hS rfl (fun wq hq => Y.xorW rfl rfl) ?_
  refine RH.tk 26 hS rfl (fun wq hq => Y.xorW rfl rfl) ?_
  refine RH.tk 27 hS rfl (fun wq hq => Y.addW rfl rfl) ?_
  refine RH.tk 28 hS rfl (fun wq hq => Y.indexAddrAN Tryd.underlying114 rfl rfl sz_u32 om_) ?_
  refine RH.one 29 kr_ ?_
  refine RS.store rfl (g := g5) (pre := wds (schedN b x)) (old := [wd 0]) (post := wds (List.replicate (63 - x) 0)) (new := [wd (nextAt b x)]) rfl (by rw [add_zero', List.length_map, schedN_length, Nat.mul_one]) rfl rfl kr_ (by rw [← wds_mid, ← repl_split om_]; exact hB5) (by first | (simp only [List.length_cons, List.length_nil, List.length_map, V8.ws]; done) | rfl) (one1 rfl) (fun w14 hc14 hB14_ => ?_)
  have hz14 := hc14.size; have hE := hE.step hc14 (fun k h => by omega); have hB2 := hB2.chg hc14 no_; have hB4 := hB4.chg hc14 no_
  have hB5 := (show Blk w14 g5 T64 (wds (schedN b (x + 1) ++ List.replicate (64 - (x + 1)) 0)) by
   rw [sched_hi b om_, List.append_assoc, List.singleton_append, wds_mid, show 64 - (x + 1) = 63 - x by omega]; exact hB14_)
  have hS : SW g5 b x w8 w14 := ⟨hS.1.trans hc14 (fun _ _ h => h), nextAt b x, by rw [wds_mid]; exact hB14_⟩
  refine ⟨hS, ?_⟩
  refine RH.done kr_ ?_
  refine hK15 _ _ ?_; try clear hK15
  refine CW.region ?_
  refine WL.m rfl ?_
  refine WL.v (Y.add rfl rfl o2_) ?_
  refine WL.a rfl ?_
  refine WL.nil ?_
  refine ⟨x + 1, by show 64 - (x + 1) < 64 - x; omega, Fr.ok, by show 16 ≤ x + 1; omega, by show x + 1 ≤ 64; omega, hE, hB2, hB4, hB5, by omega⟩
 refine CW.exit ?_
 refine hK10 _ _ ?_; try clear hK10
 refine CW.seq fun K17 hK17 => ?_
 have hB5 := (show Blk w7 g5 T64 (wds (schedN b 64)) by rw [show x = 64 by omega] at hB5; simpa using hB5)
 refine CW.region ?_
 refine WL.v (Y.load Tryd.underlying87 rfl hB2.mem (sz_digeststate _) rfl) ?_
 refine as_digeststate rfl (by simp) de_ fun g10 w15 hx15 hg10 hB10 => ?_
 have hlt10 := hB10.lt; have hz15 := hx15.size
 have hM10 := hB10.mem; have hz15 := hx15.size; have hE := hE.thenExt hx15; have hB2 := hB2.ext hx15; have hB4 := hB4.ext hx15; have hB5 := hB5.ext hx15
 refine WL.nil (hK17 _ _ ?_); try clear hK17
 refine CW.seq fun K18 hK18 => ?_
 refine CW.sr fun K19 hK19 => ?_
 refine WL.m rfl ?_
 refine WL.nil (hK19 _ _ ?_); try clear hK19
 refine CW.block ?_
 refine CW.loop (X := Nat) (fun x => [(2, .pointer (some ⟨g2, 0, none⟩)), (4, .pointer (some ⟨g4, 0, none⟩)), (5, .pointer (some ⟨g5, 0, none⟩)), (10, .pointer (some ⟨g10, 0, none⟩)), (98, .int .i64 (x : Int))]) (fun x w0 => x ≤ 64 ∧ Ext w w0 ∧ Blk w0 g2 TS (wds s.ws) ∧ Blk w0 g4 TS (wds (List.replicate 8 0)) ∧ Blk w0 g5 T64 (wds (schedN b 64)) ∧ Blk w0 g10 TS (wds (rounds (schedN b 64) x s).ws)) (fun x => 64 - x) 0 Fr.ok ⟨Nat.zero_le _, hE, hB2, hB4, hB5, hB10⟩ ?_
 intro x w16 hl16
 clear hB2 hB4 hB5 hE hxa hxb hB10
 obtain ⟨hx, hE, hB2, hB4, hB5, hB10⟩ := hl16
 obtain ⟨v, hv⟩ : ∃ v, v = rounds (schedN b 64) x s := ⟨_, rfl⟩
 rw [← hv] at hB10
 have hz16 := hE.size
 refine CW.sr fun K20 hK20 => ?_
 refine WL.v (Y.lss rfl rfl) ?_
 refine WL.nil (hK20 _ _ ?_); try clear hK20
 refine CW.seq fun K21 hK21 => ?_
 (first | refine cd_ rfl ?_ ?_ | refine ce_ rfl ?_ ?_ | refine cn_ rfl ?_ ?_ | refine cb_ rfl ?_ ?_) <;> intro ht22
 ·
  -- then
  refine CW.skip ?_
  refine hK21 _ _ ?_; try clear hK21
  refine CW.seq fun K23 hK23 => ?_
  refine CW.block ?_
  refine CW.sr fun K24 hK24 => ?_
  refine WL.m rfl ?_
  refine WL.a rfl ?_
  refine WL.nil (hK24 _ _ ?_); try clear hK24
  refine CW.seq fun K25 hK25 => ?_
  refine CW.quiet (fun wq => Ext w16 wq) kr_ kr_ Chg.drew ?_
  refine QL.v (fun wq hq => Y.indexAddrAN (i := 4) Tryd.underlying87 rfl rfl sz_u32 de_) ?_
  refine QL.v (fun wq hq => Y.load1 Tryd.underlying85 rfl ((hB10.ext hq).mem.wd (i := 4) rfl) rfl) ?_
  refine QL.v (fun wq hq => Y.indexAddrAN (i := 0) Tryd.underlying87 rfl rfl sz_u32 de_) ?_
  refine QL.v (fun wq hq => Y.load1 Tryd.underlying85 rfl ((hB10.ext hq).mem.wd (i := 0) rfl) rfl) ?_
  refine QL.a rfl ?_
  refine QL.a rfl ?_
  refine QL.nil fun w17 hx17 => ?_
  have hz17 := hx17.size
  have hE := hE.thenExt hx17
  have hB2 := hB2.ext hx17
  have hB4 := hB4.ext hx17
  have hB5 := hB5.ext hx17
  have hB10 := hB10.ext hx17
  refine hK25 _ _ ?_; try clear hK25
  refine CW.seq fun K26 hK26 => ?_
  refine CW.quiet (fun wq => Ext w17 wq) kr_ kr_ Chg.drew ?_
  refine QL.v (fun wq hq => Y.indexAddrAN (i := 7) Tryd.underlying87 rfl rfl sz_u32 de_) ?_
  refine QL.v (fun wq hq => Y.load1 Tryd.underlying85 rfl ((hB10.ext hq).mem.wd (i := 7) rfl) rfl) ?_
  refine QL.m rfl ?_
  refine QL.call Tryd.func55 rfl rfl rfl (fun wq hq => ret_ext (rightW_any _ 6 _ de_ de_) hq) (by simp) ?_
  refine QL.m rfl ?_
  refine QL.call Tryd.func55 rfl rfl rfl (fun wq hq => ret_ext (rightW_any _ 11 _ de_ de_) hq) (by simp) ?_
  refine QL.v (fun wq hq => Y.xorW rfl rfl) ?_
  refine QL.m rfl ?_
  refine QL.call Tryd.func55 rfl rfl rfl (fun wq hq => ret_ext (rightW_any _ 25 _ de_ de_) hq) (by simp) ?_
  refine QL.v (fun wq hq => Y.xorW rfl rfl) ?_
  refine QL.v (fun wq hq => Y.addW rfl rfl) ?_
  refine QL.m rfl ?_
  refine QL.v (fun wq hq => Y.indexAddrAN (i := 5) Tryd.underlying87 rfl rfl sz_u32 de_) ?_
  refine QL.v (fun wq hq => Y.load1 Tryd.underlying85 rfl ((hB10.ext hq).mem.wd (i := 5) rfl) rfl) ?_
  refine QL.v (fun wq hq => Y.andW rfl rfl) ?_
  refine QL.m rfl ?_
  refine QL.v (fun wq hq => Y.notW rfl) ?_
  refine QL.v (fun wq hq => Y.indexAddrAN (i := 6) Tryd.underlying87 rfl rfl sz_u32 de_) ?_
  refine QL.v (fun wq hq => Y.load1 Tryd.underlying85 rfl ((hB10.ext hq).mem.wd (i := 6) rfl) rfl) ?_
  refine QL.v (fun wq hq => Y.andW rfl rfl) ?_
  refine QL.v (fun wq hq => Y.xorW rfl rfl) ?_
  refine QL.v (fun wq hq => Y.addW rfl rfl) ?_
  refine QL.m rfl ?_
  refine QL.v (fun wq hq => Y.indexAddrAN Tryd.underlying114 rfl rfl sz_u32 om_) ?_
  refine QL.v (fun wq hq => Y.load1 Tryd.underlying85 rfl ((hK.ext (hE.thenExt hq)).wd (keys_get om_)) rfl) ?_
  refine QL.v (fun wq hq => Y.addW rfl rfl) ?_
  refine QL.m rfl ?_
  refine QL.v (fun wq hq => Y.indexAddrAN Tryd.underlying114 rfl rfl sz_u32 om_) ?_
  refine QL.v (fun wq hq => Y.load1 Tryd.underlying85 rfl ((hB5.ext hq).mem.wd (sched_get om_)) rfl) ?_
  refine QL.v (fun wq hq => Y.addW rfl rfl) ?_
  refine QL.a rfl ?_
  refine QL.nil fun w18 hx18 => ?_
  have hz18 := hx18.size
  have hE := hE.thenExt hx18
  have hB2 := hB2.ext hx18
  have hB4 := hB4.ext hx18
  have hB5 := hB5.ext hx18
  have hB10 := hB10.ext hx18
  refine hK26 _ _ ?_; try clear hK26
  refine CW.seq fun K27 hK27 => ?_
  refine CW.quiet (fun wq => Ext w18 wq) kr_ kr_ Chg.drew ?_
  refine QL.m rfl ?_
  refine QL.call Tryd.func55 rfl rfl rfl (fun wq hq => ret_ext (rightW_any _ 2 _ de_ de_) hq) (by simp) ?_
  refine QL.m rfl ?_
  refine QL.call Tryd.func55 rfl rfl rfl (fun wq hq => ret_ext (rightW_any _ 13 _ de_ de_) hq) (by simp) ?_
  refine QL.v (fun wq hq => Y.xorW rfl rfl) ?_
  refine QL.m rfl ?_
  refine QL.call Tryd.func55 rfl rfl rfl (fun wq hq => ret_ext (rightW_any _ 22 _ de_ de_) hq) (by simp) ?_
  refine QL.v (fun wq hq => Y.xorW rfl rfl) ?_
  refine QL.m rfl ?_
  refine QL.v (fun wq hq => Y.indexAddrAN (i := 1) Tryd.underlying87 rfl rfl sz_u32 de_) ?_
  refine QL.v (fun wq hq => Y.load1 Tryd.underlying85 rfl ((hB10.ext hq).mem.wd (i := 1) rfl) rfl) ?_
  refine QL.v (fun wq hq => Y.andW rfl rfl) ?_
  refine QL.m rfl ?_
  refine QL.v (fun wq hq => Y.indexAddrAN (i := 2) Tryd.underlying87 rfl rfl sz_u32 de_) ?_
  refine QL.v (fun wq hq => Y.load1 Tryd.underlying85 rfl ((hB10.ext hq).mem.wd (i := 2) rfl) rfl) ?_
  refine QL.v (fun wq hq => Y.andW rfl rfl) ?_
  refine QL.v (fun wq hq => Y.xorW rfl rfl) ?_
  refine QL.v (fun wq hq => Y.indexAddrAN (i := 1) Tryd.underlying87 rfl rfl sz_u32 de_) ?_
  refine QL.v (fun wq hq => Y.load1 Tryd.underlying85 rfl ((hB10.ext hq).mem.wd (i := 1) rfl) rfl) ?_
  refine QL.v (fun wq hq => Y.indexAddrAN (i := 2) Tryd.underlying87 rfl rfl sz_u32 de_) ?_
  refine QL.v (fun wq hq => Y.load1 Tryd.underlying85 rfl ((hB10.ext hq).mem.wd (i := 2) rfl) rfl) ?_
  refine QL.v (fun wq hq => Y.andW rfl rfl) ?_
  refine QL.v (fun wq hq => Y.xorW rfl rfl) ?_
  refine QL.v (fun wq hq => Y.addW rfl rfl) ?_
  refine QL.a rfl ?_
  refine QL.nil fun w19 hx19 => ?_
  have hz19 := hx19.size
  have hE := hE.thenExt hx19
  have hB2 := hB2.ext hx19
  have hB4 := hB4.ext hx19
  have hB5 := hB5.ext hx19
  have hB10 := hB10.ext hx19
  refine hK27 _ _ ?_; try clear hK27
  refine CW.seq fun K28 hK28 => ?_
  refine CW.know (d := 14) (u := wd (rT v (keysL.getD x 0) ((schedN b 64).getD x 0))) rfl rfl ?_
  refine CW.know (d := 15) (u := wd (rU v)) rfl rfl ?_
  refine CW.held (fun wq => Chg (· = g10) w19 wq) kr_ 3 rfl fun w20 hx20 => ?_; have hz20 := hx20.size; have hE := hE.thenExt hx20; have hB2 := hB2.ext hx20; have hB4 := hB4.ext hx20; have hB5 := hB5.ext hx20; have hB10 := hB10.ext hx20
  have hS : Chg (· = g10) w19 w20 := hx20.mono fun _ _ f => f.elim
  refine RH.tk 0 hS rfl (fun wq hq => Y.slice_arr_lo (i := 1) Tryd.underlying87 rfl rfl sz_u32 rfl de_) ?_
  refine RH.tk 1 hS rfl (fun wq hq => Y.slice_arr_hi (j := 7) Tryd.underlying87 rfl rfl sz_u32 rfl de_ de_) ?_
  refine RH.one 2 kr_ ?_
  refine RS.st rfl (St.copy (pre := [wd v.a]) (old := wds [v.b, v.c, v.d, v.e, v.f, v.g, v.h]) (post := []) (news := wds [v.a, v.b, v.c, v.d, v.e, v.f, v.g]) Tryd.underlying116 sz_u32 rfl (by rw [add_zero']; rfl) rfl (show Mem _ _ (wds [v.a, v.b, v.c, v.d, v.e, v.f, v.g]) from hB10.mem.take 7) rfl hB10 rfl wds_one) de_ fun v161 w21 hR21 => ?_
  obtain ⟨-, hc21, hB21_⟩ := hR21
  have hz21 := hc21.size
  have hE := hE.step hc21 (fun k h => by omega)
  have hB2 := hB2.chg hc21 no_
  have hB4 := hB4.chg hc21 no_
  have hB5 := hB5.chg hc21 no_
  have hB10 : Blk w21 g10 TS (wds [v.a, v.a, v.b, v.c, v.d, v.e, v.f, v.g]) := hB21_
  have hS := hS.trans hc21 (fun _ _ h => h)
  refine ⟨hS, ?_⟩
  refine RH.done kr_ ?_
  refine hK28 _ _ ?_; try clear hK28
  refine CW.sr fun K29 hK29 => ?_
  refine WL.v (Y.indexAddrAN (i := 4) Tryd.underlying87 rfl rfl sz_u32 de_) ?_
  refine WL.v (Y.load1 Tryd.underlying85 rfl (hB10.mem.wd (i := 4) rfl) rfl) ?_
  refine WL.m rfl ?_
  refine WL.v (Y.addW rfl rfl) ?_
  refine WL.v (Y.indexAddrAN (i := 4) Tryd.underlying87 rfl rfl sz_u32 de_) ?_
  refine WL.store (g := g10) (pre := wds [v.a, v.a, v.b, v.c]) (old := [wd v.d]) (post := wds [v.e, v.f, v.g]) (new := [wd (v.d + (rT v (keysL.getD x 0) ((schedN b 64).getD x 0)))]) rfl (by rw [add_zero']; rfl) rfl rfl kr_ hB10 (by first | (simp only [List.length_cons, List.length_nil, List.length_map, List.length_replicate, V8.ws, digC_length]; done) | rfl | (simp [digC_length, opC_length]; done) | (simp only [digC_length, opC_length]; omega)) (one1 rfl) (fun w22 hc22 hB22_ => ?_)
  have hz22 := hc22.size; have hE := hE.step hc22 (fun k h => by omega); have hB2 := hB2.chg hc22 no_; have hB4 := hB4.chg hc22 no_; have hB5 := hB5.chg hc22 no_
  have hB10 : Blk w22 g10 TS (wds [v.a, v.a, v.b, v.c, v.d + (rT v (keysL.getD x 0) ((schedN b 64).getD x 0)), v.e, v.f, v.g]) := hB22_
  refine WL.nil (hK29 _ _ ?_); try clear hK29
  refine CW.region ?_
  refine WL.m rfl ?_
  refine WL.m rfl ?_
  refine WL.v (Y.addW rfl rfl) ?_
  refine WL.v (Y.indexAddrAN (i := 0) Tryd.underlying87 rfl rfl sz_u32 de_) ?_
  refine WL.store (g := g10) (pre := []) (old := [wd v.a]) (post := wds [v.a, v.b, v.c, v.d + (rT v (keysL.getD x 0) ((schedN b 64).getD x 0)), v.e, v.f, v.g]) (new := [wd ((rT v (keysL.getD x 0) ((schedN b 64).getD x 0)) + rU v)]) rfl (by rw [add_zero']; rfl) rfl rfl kr_ hB10 (by first | (simp only [List.length_cons, List.length_nil, List.length_map, List.length_replicate, V8.ws, digC_length]; done) | rfl | (simp [digC_length, opC_length]; done) | (simp only [digC_length, opC_length]; omega)) (one1 rfl) (fun w23 hc23 hB23_ => ?_)
  have hz23 := hc23.size; have hE := hE.step hc23 (fun k h => by omega); have hB2 := hB2.chg hc23 no_; have hB4 := hB4.chg hc23 no_; have hB5 := hB5.chg hc23 no_
  have hB10 : Blk w23 g10 TS (wds (rnd v (keysL.getD x 0) ((schedN b 64).getD x 0)).ws) := hB23_
  refine WL.nil (hK23 _ _ ?_); try clear hK23
  refine CW.region ?_
  refine WL.v (Y.add rfl rfl o2_) ?_
  refine WL.m rfl ?_
  refine WL.nil ?_
  refine ⟨x + 1, by show 64 - (x + 1) < 64 - x; omega, Fr.ok, by show x + 1 ≤ 64; omega, hE, hB2, hB4, hB5, ?_⟩
  show Blk _ g10 TS (wds (rounds (schedN b 64) (x + 1) s).ws)
  rw [rounds, ← hv]
  exact hB10
 refine CW.exit ?_
 refine hK18 _ _ ?_; try clear hK18
 refine CW.seq fun K30 hK30 => ?_
 refine CW.sr fun K31 hK31 => ?_
 refine WL.m rfl ?_
 refine WL.nil (hK31 _ _ ?_); try clear hK31
 refine CW.block ?_
 refine CW.loop (X := Nat × List UInt32) (fun x => [(2, .pointer (some ⟨g2, 0, none⟩)), (4, .pointer (some ⟨g4, 0, none⟩)), (10, .pointer (some ⟨g10, 0, none⟩)), (172, .int .i64 (x.1 : Int))]) (fun x w0 => x.1 ≤ 8 ∧ x.2.length = 8 ∧ (∀ j, j < 8 → x.2[j]? = some (if j < x.1 then (rounds (schedN b 64) 64 s).ws.getD j 0 + s.ws.getD j 0 else (rounds (schedN b 64) 64 s).ws.getD j 0)) ∧ Ext w w0 ∧ Blk w0 g2 TS (wds s.ws) ∧ Blk w0 g4 TS (wds (List.replicate 8 0)) ∧ Blk w0 g10 TS (wds x.2) ∧ Blk w0 g5 T64 (wds (schedN b 64))) (fun x => 8 - x.1) (0, (rounds (schedN b 64) 64 s).ws) Fr.ok ⟨Nat.zero_le _, rfl, (fun j hj => by rw [if_neg om_]; exact ws_get hj), hE, hB2, hB4, by rw [show x = 64 by omega] at hv; rw [hv] at hB10; exact hB10, hB5⟩ ?_
 intro x w24 hl24
 clear hB2 hB4 hB5 hE hB10 hx
 obtain ⟨i, l⟩ := x
 dsimp only at hl24 ⊢
 obtain ⟨hi, hll, hlg, hE, hB2, hB4, hB10, hB5⟩ := hl24
 have hB2o := hB2
 have hz24 := hE.size
 refine CW.sr fun K32 hK32 => ?_
 refine WL.v (Y.lss rfl rfl) ?_
 refine WL.nil (hK32 _ _ ?_); try clear hK32
 refine CW.seq fun K33 hK33 => ?_
 (first | refine cd_ rfl ?_ ?_ | refine ce_ rfl ?_ ?_ | refine cn_ rfl ?_ ?_ | refine cb_ rfl ?_ ?_) <;> intro ht34
 ·
  -- then
  refine CW.skip ?_
  refine hK33 _ _ ?_; try clear hK33
  refine CW.seq fun K35 hK35 => ?_
  refine CW.block ?_
  refine CW.sr fun K36 hK36 => ?_
  refine WL.m rfl ?_
  refine WL.a rfl ?_
  refine WL.nil (hK36 _ _ ?_); try clear hK36
  refine CW.held (fun wq => Chg (· = g10) w24 wq) kr_ 9 rfl fun w25 hx25 => ?_; have hz25 := hx25.size; have hE := hE.thenExt hx25; have hB2 := hB2.ext hx25; have hB4 := hB4.ext hx25; have hB5 := hB5.ext hx25; have hB10 := hB10.ext hx25
  have hS : Chg (· = g10) w24 w25 := hx25.mono fun _ _ f => f.elim
  refine RH.tk 0 hS rfl (fun wq hq => Y.move rfl) ?_
  refine RH.tk 1 hS rfl (fun wq hq => Y.indexAddrAN Tryd.underlying87 rfl rfl sz_u32 om_) ?_
  refine RH.tk 3 hS rfl (fun wq hq => Y.move rfl) ?_
  refine RH.tk 4 hS rfl (fun wq hq => Y.indexAddrAN Tryd.underlying87 rfl rfl sz_u32 om_) ?_
  refine RH.tk 5 hS rfl (fun wq hq => Y.load1 Tryd.underlying85 rfl ((hB2o.chg hq om_).mem.wd (ws_get om_)) rfl) ?_
  refine RH.one 2 kr_ ?_
  refine RS.val rfl (Y.load1 Tryd.underlying85 rfl (hB10.mem.wd (show l[i]? = some ((rounds (schedN b 64) 64 s).ws.getD i 0) by rw [hlg i om_, if_neg om_])) rfl) de_ ⟨hS, ?_⟩
  refine RH.tk 6 hS rfl (fun wq hq => Y.addW rfl rfl) ?_
  refine RH.tk 7 hS rfl (fun wq hq => Y.indexAddrAN Tryd.underlying87 rfl rfl sz_u32 om_) ?_
  refine RH.one 8 kr_ ?_
  refine RS.store rfl (g := g10) (pre := wds (l.take i)) (old := [wd ((rounds (schedN b 64) 64 s).ws.getD i 0)]) (post := wds (l.drop (i + 1))) (new := [wd ((rounds (schedN b 64) 64 s).ws.getD i 0 + s.ws.getD i 0)]) rfl (by rw [add_zero', List.length_map, List.length_take, Nat.min_eq_left om_, Nat.mul_one]) rfl rfl kr_ (by
   have hlt : i < l.length := by omega
   have e0 := hlg i om_
   rw [if_neg om_, List.getElem?_eq_getElem hlt, Option.some.injEq] at e0
   rw [← wds_mid, ← e0, ← List.drop_eq_getElem_cons hlt, List.take_append_drop]; exact hB10) (by first | (simp only [List.length_cons, List.length_nil, List.length_map, V8.ws]; done) | rfl) (one1 rfl) (fun w26 hc26 hB26_ => ?_)
  have hz26 := hc26.size; have hE := hE.step hc26 (fun k h => by omega); have hB2 := hB2.chg hc26 no_; have hB4 := hB4.chg hc26 no_; have hB5 := hB5.chg hc26 no_
  have hB10 := (show Blk w26 g10 TS (wds (l.set i ((rounds (schedN b 64) 64 s).ws.getD i 0 + s.ws.getD i 0))) by
   rw [List.set_eq_take_append_cons_drop, if_pos om_, wds_mid]; exact hB26_)
  have hS := hS.trans hc26 (fun _ _ h => h)
  refine ⟨hS, ?_⟩
  refine RH.done kr_ ?_
  refine hK35 _ _ ?_; try clear hK35
  refine CW.region ?_
  refine WL.v (Y.add rfl rfl o2_) ?_
  refine WL.m rfl ?_
  refine WL.nil ?_
  refine ⟨(i + 1, l.set i ((rounds (schedN b 64) 64 s).ws.getD i 0 + s.ws.getD i 0)), by show 8 - (i + 1) < 8 - i; omega, Fr.ok, by show i + 1 ≤ 8; omega, by simpa using hll, ?_, hE, hB2, hB4, hB10, hB5⟩
  intro j hj
  show (l.set i ((rounds (schedN b 64) 64 s).ws.getD i 0 + s.ws.getD i 0))[j]? = some (if j < i + 1 then _ else _)
  rw [List.getElem?_set]
  by_cases he : i = j
  ·
   subst he
   rw [if_pos rfl, if_pos om_, if_pos om_]
  ·
   rw [if_neg he, hlg j hj]
   by_cases h3 : j < i
   ·
    rw [if_pos h3, if_pos om_]
   ·
    rw [if_neg h3, if_neg om_]
 refine CW.exit ?_
 refine hK30 _ _ ?_; try clear hK30
 refine CW.seq fun K37 hK37 => ?_
 have hl8 : l = ((rounds (schedN b 64) 64 s).add s).ws := by
  apply List.ext_getElem?
  intro j
  by_cases hj : j < 8
  ·
   rw [hlg j hj, if_pos om_]
   match j, hj with
   | 0, _ => rfl
   | 1, _ => rfl
   | 2, _ => rfl
   | 3, _ => rfl
   | 4, _ => rfl
   | 5, _ => rfl
   | 6, _ => rfl
   | 7, _ => rfl
  ·
   rw [List.getElem?_eq_none om_, List.getElem?_eq_none (by show 8 ≤ j; omega)]
 rw [hl8] at hB10
 refine CW.region ?_
 refine WL.v (Y.load Tryd.underlying87 rfl hB10.mem (sz_digeststate _) rfl) ?_
 refine WL.store (g := g4) (pre := []) (old := wds (List.replicate 8 0)) (post := []) (new := wds (mixV s b).ws) rfl rfl rfl rfl kr_ (by simpa using hB4) (by first | (simp only [List.length_cons, List.length_nil, List.length_map, List.length_replicate, V8.ws, digC_length]; done) | rfl | (simp [digC_length, opC_length]; done) | (simp only [digC_length, opC_length]; omega)) (wds_one) (fun w27 hc27 hB27_ => ?_)
 have hz27 := hc27.size; have hE := hE.step hc27 (fun k h => by omega); have hB2 := hB2.chg hc27 no_; have hB5 := hB5.chg hc27 no_; have hB10 := hB10.chg hc27 no_
 have hB4 : Blk w27 g4 TS (wds (mixV s b).ws) := by simpa using hB27_
 refine WL.nil (hK37 _ _ ?_); try clear hK37
 refine CW.ret ?_
 exact ⟨_, _, rfl, hB4.mem, rfl, rfl, hE⟩
end Go.Proofs.YtfanmpbapabboaaDoor
/- The padding of SHA-256: the reference's whole, walked. No condition. -/
namespace Go.Pl
open Go.Fw
def padZ (n : Nat) : Nat := (119 - n % 64) % 64
def lenByte (n j : Nat) : UInt8 := UInt8.ofNat (n * 8 / 2 ^ (56 - 8 * j))
def padB (n : Nat) : List UInt8 := 128 :: List.replicate (padZ n) 0 ++ (List.range 8).map (lenByte n)
def wholeB (b : List UInt8) : List UInt8 := b ++ padB b.length
theorem padB_len (n : Nat) : (padB n).length = padZ n + 9 := by simp [padB]
end Go.Pl
namespace Go.Proofs.YtfanmpbapabboaaDoor
open Go.RowKit Go.Fw Go.Pl
abbrev TB : TypeId := 5
theorem sh_len {n : Nat} (h : n * 8 < 18446744073709551616) : IntKind.u64.wrap (IntKind.u64.wrap (n : Int) * 8) = ((n * 8 : Nat) : Int) := by
 rw [Fw.wrap64, Nat.mod_eq_of_lt om_, show ((n : Int) * 8) = ((n * 8 : Nat) : Int) by omega, Fw.wrap64, Nat.mod_eq_of_lt h]
theorem sh_div (p m : Nat) (hm : m ≤ 64) : (p : Int).fdiv (2 ^ (min (m : Int).toNat IntKind.u64.bits)) = ((p / 2 ^ m : Nat) : Int) := by
 have e : min (m : Int).toNat IntKind.u64.bits = m := by rw [Int.toNat_natCast]; exact Nat.min_eq_left hm
 have e2 : ((2 : Int) ^ m) = ((2 ^ m : Nat) : Int) := by simp
 rw [e, e2, Int.fdiv_eq_ediv_of_nonneg _ (Int.natCast_nonneg _), ← Int.natCast_ediv]
end Go.Proofs.YtfanmpbapabboaaDoor
/- SHA-256 as the reference has it, walked: Sum. No condition. -/
namespace Go.Pl
open Go.Fw
def blk (l : List UInt8) (i : Nat) : List UInt8 := (l.drop (64 * i)).take 64
def blocksN (l : List UInt8) : Nat → V8
 | 0 => beginV
 | n + 1 => mixV (blocksN l n) (blk l n)
def digB (v : V8) (i : Nat) : UInt8 := (v.ws.getD (i / 4) 0 >>> UInt32.ofNat (24 - 8 * (i % 4))).toUInt8
def digsV (v : V8) : List UInt8 := (List.range 32).map (digB v)
def shaD (b : List UInt8) : Dig := ⟨digsV (blocksN (wholeB b) ((wholeB b).length / 64)), by simp [digsV]⟩
theorem dig_split {x : Nat} (h : x < 32) (l : List UInt8) : bytesC (l ++ List.replicate (32 - x) 0) = bytesC l ++ [bc 0] ++ bytesC (List.replicate (31 - x) 0) := by
 rw [show 32 - x = (31 - x) + 1 by omega, List.replicate_succ, bytesC_append, List.append_assoc]
 rfl
end Go.Pl
namespace Go.Proofs.YtfanmpbapabboaaDoor
open Go.RowKit Go.Fw Go.Pl
abbrev TDi : TypeId := 30
end Go.Proofs.YtfanmpbapabboaaDoor
/- digest.first, New, walked; what a Hash is as cells. No condition. -/
namespace Go.Proofs.YtfanmpbapabboaaDoor
open Go.RowKit Go.Fw Go.Pl
abbrev TH : TypeId := 91
def hashC (s : V8) (rest : List UInt8) (n : Nat) : List Value := .bool true :: (wds s.ws ++ (bytesC rest ++ [.int .i64 (n : Int)]))
theorem build_first (w : World) : (Instr.build TS [(0, Value.int .u32 1779033703), (1, Value.int .u32 3144134277), (2, Value.int .u32 1013904242), (3, Value.int .u32 2773480762), (4, Value.int .u32 1359893119), (5, Value.int .u32 2600822924), (6, Value.int .u32 528734635), (7, Value.int .u32 1541459225)].toArray).run Tryd.prog w = .ok (stV beginV) w := run_build w _ _ _ kr_
theorem build_hash (w : World) : (Instr.build TH [(0, Value.bool true), (1, stV beginV)].toArray).run Tryd.prog w = .ok (.agg (hashC beginV (List.replicate 64 0) 0).toArray) w := run_build w _ _ _ kr_
theorem first_any (w : World) : Calls Tryd.prog 36 #[] w (Ret fun v w' => v = stV beginV ∧ Ext w w') := by
 obtain ⟨i9, hi9, hz9, _⟩ := info_state
 refine calls_of_CWc 2 0 8 [] Tryd.func36 rfl rfl rfl Tryd.underlying87 rfl kr_ (by simp) args0 ?_
 have hE : Ext w w := Chg.refl
 refine CW.sr fun K1 hK1 => ?_
 refine WL.alloc (hi9) (hz9) rfl de_ fun g0 w1 hx1 hg0 hB0 => ?_
 have hlt0 := hB0.lt; have hz1 := hx1.size
 have hM0 := hB0.mem; have hz1 := hx1.size; have hE := hE.thenExt hx1
 refine WL.nil (hK1 _ _ ?_); try clear hK1
 refine CW.sr fun K2 hK2 => ?_
 refine WL.v (Y.build rfl (build_first _)) ?_
 refine WL.store (g := g0) (pre := []) (old := wds (List.replicate 8 0)) (post := []) (new := wds beginV.ws) rfl rfl rfl rfl kr_ (by simpa using hB0) (by first | (simp only [List.length_cons, List.length_nil, List.length_map, List.length_replicate, V8.ws, digC_length]; done) | rfl | (simp [digC_length, opC_length]; done) | (simp only [digC_length, opC_length]; omega)) (wds_one) (fun w2 hc2 hB2_ => ?_)
 have hz2 := hc2.size; have hE := hE.step hc2 (fun k h => by omega)
 have hB0 : Blk w2 g0 TS (wds beginV.ws) := by simpa using hB2_
 refine WL.nil (hK2 _ _ ?_); try clear hK2
 refine CW.ret ?_
 exact ⟨_, _, rfl, hB0.mem, rfl, rfl, hE⟩
theorem new_any (w : World) : Calls Tryd.prog 17 #[] w (Ret fun v w' => ∃ g, v = .pointer (some ⟨g, 0, none⟩) ∧ w.heap.size ≤ g ∧ Blk w' g TH (hashC beginV (List.replicate 64 0) 0) ∧ Ext w w') := by
 refine calls_of_CW 4 [0] [] Tryd.func17 rfl rfl rfl (by simp) args0 ?_
 have hE : Ext w w := Chg.refl
 refine CW.sr fun K1 hK1 => ?_
 refine WL.a rfl ?_
 refine WL.nil (hK1 _ _ ?_); try clear hK1
 refine CW.sr fun K2 hK2 => ?_
 refine WL.call Tryd.func36 rfl rfl rfl (first_any _) (by simp) ?_; rintro v w1 ⟨rfl, hx1⟩; have hz1 := hx1.size; have hE := hE.thenExt hx1
 refine WL.v (Y.build rfl (build_hash _)) ?_
 refine WL.box rfl rfl de_ fun g3 w2 hx2 hg3 hB3 => ?_
 have hlt3 := hB3.lt; have hz2 := hx2.size
 have hM3 := hB3.mem; have hz2 := hx2.size; have hE := hE.thenExt hx2
 refine WL.a rfl ?_
 refine WL.nil (hK2 _ _ ?_); try clear hK2
 refine CW.ret ⟨_, rfl, ?_⟩
 exact ⟨g3, rfl, by omega, hB3, hE⟩
end Go.Proofs.YtfanmpbapabboaaDoor
/- What a Hash holds when bytes come in: plain. And its cells. No condition. -/
namespace Go.Pl
open Go.Fw
theorem blk_app {xs ys : List UInt8} {i : Nat} (h : 64 * i + 64 ≤ xs.length) : blk (xs ++ ys) i = blk xs i := by
 rw [blk, blk, List.drop_append, List.take_append]
 rw [show 64 - (xs.drop (64 * i)).length = 0 by rw [List.length_drop]; omega, List.take_zero, List.append_nil]
theorem blocksN_app {xs ys : List UInt8} : ∀ {q : Nat}, 64 * q ≤ xs.length → blocksN (xs ++ ys) q = blocksN xs q
 | 0, _ => rfl
 | q + 1, h => by rw [blocksN, blocksN, blocksN_app om_, blk_app om_]
def RestOf (xs rest : List UInt8) : Prop := rest.length = 64 ∧ rest.take (xs.length % 64) = xs.drop (64 * (xs.length / 64))
def restK (xs rest ys : List UInt8) : List UInt8 := rest.take (xs.length % 64) ++ ys ++ rest.drop (xs.length % 64 + ys.length)
theorem restK_len {xs rest ys : List UInt8} (h : RestOf xs rest) (hk : xs.length % 64 + ys.length ≤ 64) : (restK xs rest ys).length = 64 := by
 rw [restK, List.length_append, List.length_append, List.length_take, List.length_drop, h.1]; omega
theorem restK_take {xs rest ys : List UInt8} (h : RestOf xs rest) (hk : xs.length % 64 + ys.length ≤ 64) : (restK xs rest ys).take (xs.length % 64 + ys.length) = (xs ++ ys).drop (64 * (xs.length / 64)) := by
 have h1 := h.1
 rw [restK, List.take_append_of_le_length (by rw [List.length_append, List.length_take]; omega), List.take_of_length_le (by rw [List.length_append, List.length_take]; omega), h.2, List.drop_append_of_le_length om_]
theorem rest_part {xs rest ys : List UInt8} (h : RestOf xs rest) (hk : xs.length % 64 + ys.length < 64) : RestOf (xs ++ ys) (restK xs rest ys) ∧ blocksN (xs ++ ys) ((xs ++ ys).length / 64) = blocksN xs (xs.length / 64) := by
 have e1 : (xs ++ ys).length = xs.length + ys.length := List.length_append
 have e2 : (xs ++ ys).length % 64 = xs.length % 64 + ys.length := by rw [e1]; omega
 have e3 : (xs ++ ys).length / 64 = xs.length / 64 := by rw [e1]; omega
 refine ⟨⟨restK_len h om_, ?_⟩, ?_⟩
 ·
  rw [e2, e3]; exact restK_take h om_
 ·
  rw [e3]; exact blocksN_app om_
theorem rest_full {xs rest ys : List UInt8} (h : RestOf xs rest) (hk : xs.length % 64 + ys.length = 64) : RestOf (xs ++ ys) (restK xs rest ys) ∧ blocksN (xs ++ ys) ((xs ++ ys).length / 64) = mixV (blocksN xs (xs.length / 64)) (restK xs rest ys) := by
 have e1 : (xs ++ ys).length = xs.length + ys.length := List.length_append
 have e2 : (xs ++ ys).length % 64 = 0 := by rw [e1]; omega
 have e3 : (xs ++ ys).length / 64 = xs.length / 64 + 1 := by rw [e1]; omega
 have hl := restK_len h (ys := ys) om_
 refine ⟨⟨hl, ?_⟩, ?_⟩
 ·
  rw [e2, e3, List.take_zero, List.drop_of_length_le (by rw [e1]; omega)]
 ·
  rw [e3, blocksN, blocksN_app om_]
  congr 1
  have := restK_take h (ys := ys) om_
  rw [hk, List.take_of_length_le om_] at this
  rw [blk, ← this, List.take_of_length_le om_]
theorem restOf_nil : RestOf [] (List.replicate 64 0) := ⟨by simp, by simp⟩
end Go.Pl
namespace Go.Proofs.YtfanmpbapabboaaDoor
open Go.RowKit Go.Fw Go.Pl
theorem eqIn_ptr (d : Nat) {t e : TypeId} (hT : Tryd.prog.underlying t = some (.pointer e)) (a : Addr) (w : World) : (Op.equalIn (d + 1) t (.pointer (some a)) (.pointer none)).run Tryd.prog w = .ok false w := by
 rw [Op.equalIn, Sem.run_bind, run_underlying hT]
 rfl
section
variable {n : NN} {fr : Fr} {w : World} {ty : TypeId} {x y : Operand} {t' : TypeId}
theorem Y.eql_digestHash {a : Addr} (hx : ev fr x = some (.pointer (some a))) (hy : ev fr y = some (.pointer none)) : Yw Tryd.prog n fr (.binOp .eql 55 x y t') ty w (.bool false) w :=
 Y.bin hx hy (by simp [eqGuard]) (by
  simp only [binOp, Op.equal, Sem.run_bind]
  rw [show Op.maxDepth = 9999 + 1 from rfl, eqIn_ptr 9999 Tryd.underlying55]
  rfl)
end
section
variable {w : World} {a : Addr} {s : V8} {rest : List UInt8} {k : Nat}
theorem Mem.digestHash0 (h : Mem w a (hashC s rest k)) : w.cell? (a.add 0) = some (.bool true) := h 0 _ rfl
theorem Mem.digestHash1 (h : Mem w a (hashC s rest k)) : Mem w (a.add 1) (wds s.ws) := h.sub 1 fun j v hj => by
 have hlt := (List.getElem?_eq_some_iff.1 hj).1
 rw [hashC, Nat.add_comm, List.getElem?_cons_succ, List.getElem?_append_left hlt]; exact hj
theorem Mem.digestHash2 (h : Mem w a (hashC s rest k)) : Mem w (a.add 9) (bytesC rest) := h.sub 9 fun j v hj => by
 have hlt := (List.getElem?_eq_some_iff.1 hj).1
 rw [hashC, show 9 + j = (8 + j) + 1 by omega, List.getElem?_cons_succ, List.getElem?_append_right (by show 8 ≤ _; omega)]
 rw [show 8 + j - (wds s.ws).length = j by show 8 + j - 8 = j; omega, List.getElem?_append_left hlt]; exact hj
theorem Mem.digestHash3 (hl : rest.length = 64) (h : Mem w a (hashC s rest k)) : w.cell? (a.add 73) = some (.int .i64 (k : Int)) := h 73 _ (by
 rw [hashC, List.getElem?_cons_succ, List.getElem?_append_right (by show 8 ≤ 72; omega)]
 rw [show 72 - (wds s.ws).length = 64 from rfl, List.getElem?_append_right (by rw [bytesC_length]; omega), bytesC_length, hl]
 rfl)
end
end Go.Proofs.YtfanmpbapabboaaDoor
