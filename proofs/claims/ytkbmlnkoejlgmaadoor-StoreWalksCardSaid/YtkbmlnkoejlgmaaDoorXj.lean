/- StoreWalks, walked. No condition. -/
import Derived.Test.YtkbmlnkoejlgmaaDoorXi
import Derived.Test.YtkbmlnkoejlgmaaDoorXd
set_option linter.unusedSimpArgs false
set_option linter.unusedVariables false
theorem not_t {b : Bool} (h : (!b) = true) : b = false := by simpa using h
theorem not_f {b : Bool} (h : (!b) = false) : b = true := by simpa using h
namespace Go.Fw
theorem Chg.ext {S : Nat → Prop} {w w1 w2 : World} (h : Chg S w w1) (k : Ext w1 w2) : Chg S w w2 := h.thenExt k
theorem Y.minN {P : Program} {n : NN} {fr : Fr} {w : World} {ty : TypeId} {x y : Operand} {k : IntKind} {p q : Nat} {t t' : TypeId} (hx : ev fr x = some (.int k (p : Int))) (hy : ev fr y = some (.int k (q : Int))) :
    Yw P n fr (.call { callee := .builtin .min, args := #[x, y], argTypes := #[t, t'] }) ty w (.int k ((min p q : Nat) : Int)) w := fun a o' ho _ ha => by
  simp [execOp, ho, resolve, invoke, builtin, ha.ev hx, ha.ev hy, Builtin.min_, Builtin.min2]
  split <;> omega
theorem run_bs4 {P : Program} {t e : TypeId} {ie : TypeInfo} {z : Value} {a b c d : Value} (hu : P.underlying t = some (.slice e)) (hi : P.info? e = some ie) (hz : ie.zero = some z) (h1 : ie.size = 1) (ha : a.cells = #[a]) (hb : b.cells = #[b]) (hc : c.cells = #[c]) (hd : d.cells = #[d]) (w : World) :
    (Instr.buildSlice t 4 [(0, a), (1, b), (2, c), (3, d)].toArray).run P w = .ok (.slice (some ⟨w.heap.size, 0, none⟩) 4 4) (w.alloc (.cells [a, b, c, d].toArray e)) := by
  refine run_buildSlice w t e 4 _ _ ie z hu hi hz (by omega) (by omega) ?_
  have h := Go.Great.fill_whole (s := ie.size) (by omega) [a, b, c, d] ((Array.range (4 * ie.size)).map (z.cells[· % z.cells.size]!)) (by intro u hu; simp at hu; rcases hu with rfl | rfl | rfl | rfl <;> simp [*]) (by simp)
  simpa [ha, hb, hc, hd] using h
end Go.Fw
namespace Go.Proofs.YtkbmlnkoejlgmaaDoor
open Go.RowKit Go.Fw Go.Pl Go.Sort
theorem bs4_u8 (a b c d : Int) (w : World) : (Instr.buildSlice 26 4 [(0, .int .u8 a), (1, .int .u8 b), (2, .int .u8 c), (3, .int .u8 d)].toArray).run Tryd.prog w = .ok (.slice (some ⟨w.heap.size, 0, none⟩) 4 4) (w.alloc (.cells [.int .u8 a, .int .u8 b, .int .u8 c, .int .u8 d].toArray 5)) := by
  obtain ⟨i, z, hi, hz, hk, _⟩ := ai_u8
  exact run_bs4 Tryd.underlying26 hi hz hk rfl rfl rfl rfl w
/-- What holds ahead of a round: n0 objects there were, the round is the i-th; no text lies in a box of the law's. -/
structure Wlk (w V : World) (g r g3 g4 g5 g8 g9 b0 : Nat) (leave n0 i : Int) : Prop where
  st : ∃ l, StoreAt V g r l ∧ ∀ e ∈ l, ∀ k, e.v.ownBlock = some k → k ≠ g3 ∧ k ≠ g4 ∧ k ≠ g5 ∧ k ≠ g8 ∧ k ≠ g9 ∧ k ≠ b0 ∧ k ≠ b0 + 1
  b3 : Blk V g3 3 [.int .i64 leave]
  b4 : Blk V g4 4 [.bool false]
  b5 : Blk V g5 23 [.pointer (some ⟨g, 0, none⟩)]
  b8 : Blk V g8 3 [.int .i64 n0]
  b9 : Blk V g9 3 [.int .i64 i]
  ext : Ext w V
theorem Wlk.turn {w V V' : World} {g r g3 g4 g5 g8 g9 b0 : Nat} {leave n0 i : Int} (h : Wlk w V g r g3 g4 g5 g8 g9 b0 leave n0 i) (hc : Chg (fun k => False ∨ k = b0 + 1) V V') (hb : g < b0 ∧ r < b0 ∧ g3 < b0 ∧ g4 < b0 ∧ g5 < b0 ∧ g8 < b0 ∧ g9 < b0 ∧ w.heap.size ≤ b0) : Wlk w V' g r g3 g4 g5 g8 g9 b0 leave n0 i where
  st := by
    obtain ⟨l, hT, hNB⟩ := h.st
    exact ⟨l, hT.chg hc (by rintro (h | h); exact h; omega) (by rintro (h | h); exact h; omega) (fun e he k hk => by rintro (h | h); exact h; have := hNB e he k hk; omega), hNB⟩
  b3 := h.b3.chg hc (by rintro (h | h); exact h; omega)
  b4 := h.b4.chg hc (by rintro (h | h); exact h; omega)
  b5 := h.b5.chg hc (by rintro (h | h); exact h; omega)
  b8 := h.b8.chg hc (by rintro (h | h); exact h; omega)
  b9 := h.b9.chg hc (by rintro (h | h); exact h; omega)
  ext := h.ext.step hc (fun k h => by rcases h with h | h; exact h.elim; omega)

set_option maxHeartbeats 2000000 in
theorem storeWalks_any (u : Value) (bss : List (Value × List UInt8)) (leave : Int) (w : World) (hu : Bss w u bss) (hi : InI64 leave) (hml : bss.length * 24 ≤ 140737488351232) (hK : Mem w ⟨0, 0, none⟩ (wds keysL)) : Calls Tryd.prog 5 #[u, .int .i64 leave] w (Ret (True_ w)) := by
  have hK0 := hK
  have hT := hK
  have hk0 : (0 : Nat) < w.heap.size := hK.lt (fun h => by cases h)
  obtain ⟨⟨A, m, c, rfl, hm, hmc, hcm, hux⟩, huq⟩ := hu
  unfold maxLen at hcm
  refine calls_of_CNs 60 4 [(0, .slice A m c), (1, .int .i64 leave)] Tryd.func5 rfl rfl rfl Tryd.underlying4 rfl (by simp) args2 ?_
  have hE : Ext w w := Chg.refl
  refine CN.seq fun K1 hK1 => ?_
  refine CN.of_CW ?_
  refine CW.region ?_   -- region 0
  refine WL.box rfl rfl (by first | decide | exact Nat.le_of_ble_eq_true rfl) fun g3 w1 hx1 hg3 hB3 => ?_   -- t3 := box 3 t1
  have hlt3 := hB3.lt; have hz1 := hx1.size
  have hM3 := hB3.mem; have hz1 := hx1.size; have hE := hE.thenExt hx1; have hK := hK.ext hx1; have hT := hT.ext hx1
  refine WL.alloc1 (z := .bool false) (by kernel_rfl) rfl (by first | decide | exact Nat.le_of_ble_eq_true rfl) fun g4 w2 hx2 hg4 hB4 => ?_   -- t4 := alloc 4
  have hlt4 := hB4.lt; have hz2 := hx2.size
  have hM4 := hB4.mem; have hz2 := hx2.size; have hE := hE.thenExt hx2; have hK := hK.ext hx2; have hT := hT.ext hx2; have hB3 := hB3.ext hx2
  refine WL.nil ?_
  refine hK1 _ _ _ ?_; try clear hK1 K1
  refine CN.seq fun K2 hK2 => ?_
  refine CN.of_CW ?_
  refine CW.region ?_   -- region 1
  refine WL.call Tryd.func7 rfl rfl rfl (stNew_any _) (by simp) ?_; rintro v11 w3 hR3   -- t11 := call F7() : 
  obtain ⟨g, r, rfl, hg, hr, hT, hx3⟩ := hR3
  have hz3 := hx3.size
  have hE := hE.thenExt hx3
  have hK := hK.ext hx3
  have hB3 := hB3.ext hx3
  have hB4 := hB4.ext hx3
  have hgr := hT.lt
  have hNB : ∀ e ∈ ([] : List Ent), ∀ k, e.v.ownBlock = some k → False := fun e he => nomatch he
  refine WL.allocStore1 (by kernel_rfl) rfl (by simp) rfl rfl (by first | decide | exact Nat.le_of_ble_eq_true rfl) fun g5 w4 hx4 hg5 hB5 => ?_   -- alloc 23; store 23 t5 t11
  have hlt5 := hB5.lt; have hz4 := hx4.size
  have hM5 := hB5.mem; have hz4 := hx4.size; have hE := hE.thenExt hx4; have hK := hK.ext hx4; have hT := hT.ext hx4; have hB3 := hB3.ext hx4; have hB4 := hB4.ext hx4
  refine WL.nil ?_
  refine hK2 _ _ _ ?_; try clear hK2 K2
  refine CN.seq fun K3 hK3 => ?_
  refine CN.seq_testE 17 (False) ?_ ?_
  · refine CW.region ?_
    refine WL.val (Y.load1 Tryd.underlying23 rfl hB5.mem.cell0 rfl) (by first | decide | exact Nat.le_of_ble_eq_true rfl) ?_   -- t12 := load 23 t5
    refine WL.val (Y.eql_storeStore rfl rfl) (by first | decide | exact Nat.le_of_ble_eq_true rfl) ?_   -- t13 := binOp eql 23 t12 c(['Go.Value.pointer', 'none']) 23
    refine WL.val (Y.move rfl) (by first | decide | exact Nat.le_of_ble_eq_true rfl) ?_   -- t14 := move t13
    first | refine WL.casesD (d := 14) rfl (fun hg14 => ?_) (fun hg14 => ?_) | refine WL.casesND (d := 14) rfl (fun hg14 => ?_) (fun hg14 => ?_) | refine WL.cases (d := 14) rfl (fun hg14 => ?_) (fun hg14 => ?_)
    · -- t14 = T
      refine WL.goff rfl rfl (by first | decide | exact Nat.le_of_ble_eq_true rfl) ?_   -- t15 := call F8() :  [if 2=false]
      refine WL.goff rfl rfl (by first | decide | exact Nat.le_of_ble_eq_true rfl) ?_   -- t16 := unOp not 4 t15 [if 2=false]
      refine WL.val (Y.pick rfl rfl) (by first | decide | exact Nat.le_of_ble_eq_true rfl) ?_   -- t17 := pick t14 c(true) t16
      refine WL.nil ⟨⟨_, rfl, ?_⟩, Chg.refl, (by repeat (first | exact Fr.le.refl | refine Fr.le.push rfl ?_))⟩
      first | (simp only [*, Bool.not_eq_true', decide_eq_false_iff_not, decide_eq_true_eq, not_true_eq_false, not_false_eq_true, true_and, false_and, and_true, and_false, false_or, or_false, true_or, or_true, iff_true, true_iff, iff_false, false_iff]; done) | (simp_all; done) | (refine congrArg Value.bool (Bool.eq_iff_iff.2 ?_); simp_all; done) | (simp_all; omega)
    · -- t14 = F
      refine WL.gcall rfl rfl Tryd.func8 rfl rfl rfl (alive_any _ hK) (by first | decide | exact Nat.le_of_ble_eq_true rfl) ?_; rintro v w5 ⟨rfl, hx5⟩; have hz5 := hx5.size; have hE := hE.thenExt hx5; have hK := hK.ext hx5; have hT := hT.ext hx5; have hB3 := hB3.ext hx5; have hB4 := hB4.ext hx5; have hB5 := hB5.ext hx5   -- t15 := call F8() :  [if 2=false]
      refine WL.gval rfl rfl (Y.not rfl) (by first | decide | exact Nat.le_of_ble_eq_true rfl) ?_   -- t16 := unOp not 4 t15 [if 2=false]
      refine WL.val (Y.pick rfl rfl) (by first | decide | exact Nat.le_of_ble_eq_true rfl) ?_   -- t17 := pick t14 c(true) t16
      refine WL.nil ⟨⟨_, rfl, ?_⟩, hx5, (by repeat (first | exact Fr.le.refl | refine Fr.le.push rfl ?_))⟩
      first | (simp only [*, Bool.not_eq_true', decide_eq_false_iff_not, decide_eq_true_eq, not_true_eq_false, not_false_eq_true, true_and, false_and, and_true, and_false, false_or, or_false, true_or, or_true, iff_true, true_iff, iff_false, false_iff]; done) | (simp_all; done) | (refine congrArg Value.bool (Bool.eq_iff_iff.2 ?_); simp_all; done) | (simp_all; omega)
  intro w6 hx6; have hz6 := hx6.size; have hE := hE.thenExt hx6; have hK := hK.ext hx6; have hT := hT.ext hx6; have hB3 := hB3.ext hx6; have hB4 := hB4.ext hx6; have hB5 := hB5.ext hx6
  first | refine CN.condD rfl (fun ht4 => ?_) (fun ht4 => ?_) | refine CN.condND rfl (fun ht4 => ?_) (fun ht4 => ?_) | refine CN.condN rfl (fun ht4 => ?_) (fun ht4 => ?_) | refine CN.cond rfl (fun ht4 => ?_) (fun ht4 => ?_)
  · -- then
    refine CN.seq fun K5 hK5 => ?_
    refine CN.of_CW ?_
    refine CW.region ?_   -- region 3
    refine WL.store (g := g4) (pre := []) (old := [.bool false]) (post := []) (new := [.bool false]) rfl rfl rfl rfl (by kernel_rfl) (by simpa using hB4) (by first | rfl | (simp [digC_length, opC_length]; done) | (simp only [digC_length, opC_length]; omega)) (one1 rfl) (fun w7 hc7 hB7_ => ?_)   -- _ := store 4 t4 c(false)
    have hz7 := hc7.size; have hE := hE.step hc7 (fun k h => by omega); have hK := hK.chg hc7 (fun h => by change 0 = _ at h; omega); have hT := hT.chg hc7 (fun h => by omega) (fun h => by omega) (fun e he k hk h => by have := hNB e he k hk; omega); have hB3 := hB3.chg hc7 (fun h => by omega); have hB5 := hB5.chg hc7 (fun h => by omega)
    have hB4 : Blk w7 g4 4 [.bool false] := by simpa using hB7_
    refine WL.nil ?_
    refine hK5 _ _ _ ?_; try clear hK5 K5
    refine CN.ret ?_
    exact False.elim (by assumption)
  -- else
  refine CN.skip ?_
  refine hK3 _ _ _ ?_; try clear hK3 K3
  refine CN.seq fun K6 hK6 => ?_
  refine CN.seq fun K7 hK7 => ?_
  refine CN.of_CW ?_
  refine CW.region ?_   -- region 4
  refine WL.val (Y.move rfl) (by first | decide | exact Nat.le_of_ble_eq_true rfl) ?_   -- t18 := move t0
  refine WL.val (Y.move rfl) (by first | decide | exact Nat.le_of_ble_eq_true rfl) ?_   -- t19 := move t0
  refine WL.val (Y.len_slice Tryd.underlying22 rfl) (by first | decide | exact Nat.le_of_ble_eq_true rfl) ?_   -- t20 := call len(t19) : 22
  refine WL.val (Y.minN (q := 200) rfl rfl) (by first | decide | exact Nat.le_of_ble_eq_true rfl) ?_   -- t21 := call min(t20, c(200:i64)) : 3,3
  refine WL.val (Y.slice_hi Tryd.underlying22 rfl rfl sz0_suint8 rfl (by omega)) (by first | decide | exact Nat.le_of_ble_eq_true rfl) ?_   -- t22 := slice 22 t18 none t21 none
  refine WL.val (Y.len_slice Tryd.underlying22 rfl) (by first | decide | exact Nat.le_of_ble_eq_true rfl) ?_   -- t23 := call len(t22) : 22
  refine WL.val (Y.move rfl) (by first | decide | exact Nat.le_of_ble_eq_true rfl) ?_   -- t24 := move c(0:i64)
  refine WL.nil ?_
  refine hK7 _ _ _ ?_; try clear hK7 K7
  refine CN.block ?_   -- block 0
  refine CN.of_CW ?_
  refine CW.loop (X := List Ent × Nat) (fun x => [(3, .pointer (some ⟨g3, 0, none⟩)), (4, .pointer (some ⟨g4, 0, none⟩)), (5, .pointer (some ⟨g5, 0, none⟩)), (22, .slice A (min m 200) c), (23, .int .i64 ((min m 200 : Nat) : Int)), (24, .int .i64 (x.2 : Int))]) (fun x w0 => x.2 ≤ min m 200 ∧ Ext w w0 ∧ StoreAt w0 g r x.1 ∧ (∀ e ∈ x.1, ∀ k, e.v.ownBlock = some k → w6.heap.size ≤ k) ∧ Blk w0 g3 3 [.int .i64 leave] ∧ Blk w0 g4 4 [.bool false] ∧ Blk w0 g5 23 [.pointer (some ⟨g, 0, none⟩)] ∧ w6.heap.size ≤ w0.heap.size) (fun x => min m 200 - x.2) ([], 0) (by repeat (first | exact Fr.le.nil | refine Fr.le.cons rfl ?_)) ⟨Nat.zero_le _, hE, hT, (fun e he => nomatch he), hB3, hB4, hB5, Nat.le_refl _⟩ ?_
  intro x w8 hl8
  clear hE hT hK hB3 hB4 hB5 hNB
  obtain ⟨l, x⟩ := x
  dsimp only at hl8 ⊢
  obtain ⟨hx, hE, hT, hNB0, hB3, hB4, hB5, hz8⟩ := hl8
  have hNB : ∀ e ∈ l, ∀ k, e.v.ownBlock = some k → w6.heap.size ≤ k ∧ k < w8.heap.size := fun e he k hk => ⟨hNB0 e he k hk, (hT.low e he k hk).2.2⟩
  have hK := hK0.ext hE
  have hgr2 := hT.lt
  have hfew := hT.few
  have hzE := hE.size
  refine CW.seq fun K8 hK8 => ?_
  refine CW.region ?_   -- region 5
  refine WL.val (Y.lss rfl rfl) (by first | decide | exact Nat.le_of_ble_eq_true rfl) ?_   -- t25 := binOp lss 3 t24 t23 3
  refine WL.nil ?_
  refine hK8 _ _ ?_; try clear hK8 K8
  refine CW.seq fun K9 hK9 => ?_
  first | refine CW.condD rfl (fun ht10 => ?_) (fun ht10 => ?_) | refine CW.condND rfl (fun ht10 => ?_) (fun ht10 => ?_) | refine CW.condN rfl (fun ht10 => ?_) (fun ht10 => ?_) | refine CW.cond rfl (fun ht10 => ?_) (fun ht10 => ?_)
  · -- then
    refine CW.skip ?_
    refine hK9 _ _ ?_; try clear hK9 K9
    refine CW.seq fun K11 hK11 => ?_
    refine CW.block ?_   -- block 1
    refine CW.seq fun K12 hK12 => ?_
    obtain ⟨⟨v, b⟩, hvb⟩ : ∃ y, bss[x]? = some y := ⟨_, List.getElem?_eq_getElem (by omega)⟩
    obtain ⟨a, rfl, hma⟩ := hux _ _ hvb
    obtain ⟨hb, hbl⟩ := huq _ _ hvb
    obtain ⟨Ab, mb, cb, hbv⟩ := hb.lens
    dsimp only at hbv
    subst hbv
    dsimp only at hb hbl
    refine CW.region ?_   -- region 6
    refine WL.val (Y.indexAddrN Tryd.underlying22 rfl rfl sz0_suint8 (by omega)) (by first | decide | exact Nat.le_of_ble_eq_true rfl) ?_   -- t26 := indexAddr 22 t22 t24
    refine WL.val (Y.load1 Tryd.underlying26 rfl ((hma.ext hE).cell0) rfl) (by first | decide | exact Nat.le_of_ble_eq_true rfl) ?_   -- t27 := load 26 t26
    refine WL.val (Y.assign rfl) (by first | decide | exact Nat.le_of_ble_eq_true rfl) ?_   -- t7 := assign t27
    refine WL.nil ?_
    refine hK12 _ _ ?_; try clear hK12 K12
    refine CW.region ?_   -- region 7
    refine WL.val (Y.load1 Tryd.underlying23 rfl hB5.mem.cell0 rfl) (by first | decide | exact Nat.le_of_ble_eq_true rfl) ?_   -- t28 := load 23 t5
    refine WL.val (Y.move rfl) (by first | decide | exact Nat.le_of_ble_eq_true rfl) ?_   -- t29 := move t7
    refine WL.call Tryd.func9 rfl rfl rfl (stPut_any g r l _ b _ hT hK ⟨by omega, by omega⟩ (hb.ext hE) (fun h0 k hk => by have := hb.lt h0 k hk; omega)) (by simp) ?_; rintro v30 w9 hR9   -- t30 := call F9(t28, t29) : 23,26
    obtain ⟨rfl, ⟨l2, ⟨_, hfr⟩, hT⟩, hc9⟩ := hR9
    have hz9 := hc9.size
    have hE := hE.step hc9 (fun k h => by rcases h with h | h <;> omega)
    have hK := hK0.ext hE
    have hB3 := hB3.chg hc9 (fun h => by rcases h with h | h <;> omega)
    have hB4 := hB4.chg hc9 (fun h => by rcases h with h | h <;> omega)
    have hB5 := hB5.chg hc9 (fun h => by rcases h with h | h <;> omega)
    refine WL.nil ?_
    refine hK11 _ _ ?_; try clear hK11 K11
    refine CW.region ?_   -- region 8
    refine WL.val (Y.add rfl rfl ⟨by omega, by omega⟩) (by first | decide | exact Nat.le_of_ble_eq_true rfl) ?_   -- t31 := binOp add 3 t24 c(1:i64) 3
    refine WL.val (Y.move rfl) (by first | decide | exact Nat.le_of_ble_eq_true rfl) ?_   -- t24 := move t31
    refine WL.nil ?_
    refine ⟨(l2, x + 1), by show min m 200 - (x + 1) < min m 200 - x; omega, (by repeat (first | exact Fr.le.nil | refine Fr.le.cons rfl ?_)), by show x + 1 ≤ min m 200; omega, hE, hT, ?_, hB3, hB4, hB5, by omega⟩
    intro e he k hk
    rcases hfr e he with h | h
    · exact hNB0 e h k hk
    · have := h k hk; omega
  -- else
  refine CW.exit ?_   -- exit 0
  refine hK6 _ _ _ ?_; try clear hK6 K6
  refine CN.seq fun K13 hK13 => ?_
  refine CN.of_CW ?_
  refine CW.region ?_   -- region 9
  refine WL.val (Y.load1 Tryd.underlying23 rfl hB5.mem.cell0 rfl) (by first | decide | exact Nat.le_of_ble_eq_true rfl) ?_   -- t32 := load 23 t5
  refine WL.call Tryd.func12 rfl rfl rfl (stLen_any g r l _ hT) (by simp) ?_; rintro v w10 ⟨rfl, hx10⟩; have hz10 := hx10.size; have hE := hE.thenExt hx10; have hK := hK.ext hx10; have hT := hT.ext hx10; have hB3 := hB3.ext hx10; have hB4 := hB4.ext hx10; have hB5 := hB5.ext hx10   -- t33 := call F12(t32) : 23
  refine WL.alloc1 (z := .int .i64 0) (by kernel_rfl) rfl (by first | decide | exact Nat.le_of_ble_eq_true rfl) fun g8 w11 hx11 hg8 hB8 => ?_   -- t8 := alloc 3
  have hlt8 := hB8.lt; have hz11 := hx11.size
  have hM8 := hB8.mem; have hz11 := hx11.size; have hE := hE.thenExt hx11; have hK := hK.ext hx11; have hT := hT.ext hx11; have hB3 := hB3.ext hx11; have hB4 := hB4.ext hx11; have hB5 := hB5.ext hx11
  refine WL.alloc1 (z := .int .i64 0) (by kernel_rfl) rfl (by first | decide | exact Nat.le_of_ble_eq_true rfl) fun g9 w12 hx12 hg9 hB9 => ?_   -- t9 := alloc 3
  have hlt9 := hB9.lt; have hz12 := hx12.size
  have hM9 := hB9.mem; have hz12 := hx12.size; have hE := hE.thenExt hx12; have hK := hK.ext hx12; have hT := hT.ext hx12; have hB3 := hB3.ext hx12; have hB4 := hB4.ext hx12; have hB5 := hB5.ext hx12; have hB8 := hB8.ext hx12
  refine WL.store (g := g8) (pre := []) (old := [.int .i64 0]) (post := []) (new := [.int .i64 (l.length : Int)]) rfl rfl rfl rfl (by kernel_rfl) (by simpa using hB8) (by first | rfl | (simp [digC_length, opC_length]; done) | (simp only [digC_length, opC_length]; omega)) (one1 rfl) (fun w13 hc13 hB13_ => ?_)   -- _ := store 3 t8 t33
  have hz13 := hc13.size; have hE := hE.step hc13 (fun k h => by omega); have hK := hK.chg hc13 (fun h => by change 0 = _ at h; omega); have hT := hT.chg hc13 (fun h => by omega) (fun h => by omega) (fun e he k hk h => by have := hNB e he k hk; omega); have hB3 := hB3.chg hc13 (fun h => by omega); have hB4 := hB4.chg hc13 (fun h => by omega); have hB5 := hB5.chg hc13 (fun h => by omega); have hB9 := hB9.chg hc13 (fun h => by omega)
  have hB8 : Blk w13 g8 3 [.int .i64 (l.length : Int)] := by simpa using hB13_
  refine WL.store (g := g9) (pre := []) (old := [.int .i64 0]) (post := []) (new := [.int .i64 0]) rfl rfl rfl rfl (by kernel_rfl) (by simpa using hB9) (by first | rfl | (simp [digC_length, opC_length]; done) | (simp only [digC_length, opC_length]; omega)) (one1 rfl) (fun w14 hc14 hB14_ => ?_)   -- _ := store 3 t9 c(0:i64)
  have hz14 := hc14.size; have hE := hE.step hc14 (fun k h => by omega); have hK := hK.chg hc14 (fun h => by change 0 = _ at h; omega); have hT := hT.chg hc14 (fun h => by omega) (fun h => by omega) (fun e he k hk h => by have := hNB e he k hk; omega); have hB3 := hB3.chg hc14 (fun h => by omega); have hB4 := hB4.chg hc14 (fun h => by omega); have hB5 := hB5.chg hc14 (fun h => by omega); have hB8 := hB8.chg hc14 (fun h => by omega)
  have hB9 : Blk w14 g9 3 [.int .i64 0] := by simpa using hB14_
  refine WL.nil ?_
  refine hK13 _ _ _ ?_; try clear hK13 K13
  refine CN.seq fun K14 hK14 => ?_
  refine CN.seq fun K15 hK15 => ?_
  refine CN.of_CW ?_
  refine CW.region ?_   -- region 10
  refine WL.val (Y.load1 Tryd.underlying23 rfl hB5.mem.cell0 rfl) (by first | decide | exact Nat.le_of_ble_eq_true rfl) ?_   -- t34 := load 23 t5
  refine WL.call Tryd.func16 rfl rfl rfl (sall_any ⟨g, 0, none⟩ _) (by simp) ?_; rintro v35 w15 hR15   -- t35 := call F16(t34) : 23
  obtain ⟨b, rfl, hgb, hBb, hx15⟩ := hR15
  have hz15 := hx15.size
  have hE := hE.thenExt hx15
  have hT := hT.ext hx15
  have hK := hK.ext hx15
  have hB3 := hB3.ext hx15
  have hB4 := hB4.ext hx15
  have hB5 := hB5.ext hx15
  have hB8 := hB8.ext hx15
  have hB9 := hB9.ext hx15
  refine WL.nil ?_
  refine hK15 _ _ _ ?_; try clear hK15 K15
  refine CN.block ?_   -- block 2
  refine CN.range (rfl) Tryd.func27 rfl rfl (sall1_any g r b l _ hT hBb) (fun _ => rfl) (by first | decide | exact Nat.le_of_ble_eq_true rfl) (fun _ h => h.elim) (fun w1 s V hz hs i hk => by have := hs.lo; have := hk.1; omega) (fun s i V => s.bs.length = l.length ∧ w15.heap.size + 2 ≤ s.lo ∧ Wlk w V g r g3 g4 g5 g8 g9 w15.heap.size leave (l.length : Int) (i : Int)) (fun _ e V => (e = .exit 2 ∧ Wlk w V g r g3 g4 g5 g8 g9 w15.heap.size leave (l.length : Int) (l.length : Int)) ∨ (e = .ret ∧ False)) ?_ ?_ ?_ ?_ ?_ ?_
  · intro w1_ s_ V hw_ hz_ hc_ hs_
    exact ⟨by rw [hs_.len, namesL_length], by have := hs_.lo; omega, ⟨⟨l, (hT.ext hw_).ext hc_, fun e he k hk => by have := hNB e he k hk; omega⟩, (hB3.ext hw_).ext hc_, (hB4.ext hw_).ext hc_, (hB5.ext hw_).ext hc_, (hB8.ext hw_).ext hc_, (hB9.ext hw_).ext hc_, (hE.thenExt hw_).thenExt hc_⟩⟩
  · intro s_ i_ V V_ hi_ hc_
    exact ⟨hi_.1, hi_.2.1, hi_.2.2.turn hc_ ⟨by omega, by omega, by omega, by omega, by omega, by omega, by omega, by omega⟩⟩
  · intro s_ e_ V V_ hi_ hc_
    rcases hi_ with ⟨he, hi_⟩ | hi_
    · exact .inl ⟨he, hi_.turn hc_ ⟨by omega, by omega, by omega, by omega, by omega, by omega, by omega, by omega⟩⟩
    · exact .inr hi_
  · intro s_ i_ x_ w16 hi_ hx_ hat_ hz_
    obtain ⟨hbl, hlo, hi_⟩ := hi_
    obtain ⟨⟨l2, hT, hNB⟩, hB3, hB4, hB5, hB8, hB9, hE⟩ := hi_
    have hK := hK0.ext hE
    have hfew2 := hT.few
    have hil : i_ < l.length := by
      have := (List.getElem?_eq_some_iff.1 hx_).1
      simp only [allXs, List.length_zip, namesL_length] at this
      omega
    have hC : Chg (fun k => k = g ∨ k = r ∨ k = g9 ∨ k = g4) w16 w16 := Chg.refl
    refine CW.region ?_   -- region 11
    refine as_apiDigest rfl (by simp) (by first | decide | exact Nat.le_of_ble_eq_true rfl) fun g10 w17 hx17 hg10 hB10 => ?_   -- alloc 28; store 28 t10 t36
    have hlt10 := hB10.lt; have hz17 := hx17.size
    have hM10 := hB10.mem; have hz17 := hx17.size; have hE := hE.thenExt hx17; have hT := hT.ext hx17; have hK := hK.ext hx17; have hB3 := hB3.ext hx17; have hB4 := hB4.ext hx17; have hB5 := hB5.ext hx17; have hB8 := hB8.ext hx17; have hB9 := hB9.ext hx17; have hC := hC.ext hx17
    refine WL.nil ?_
    have hE_ : Ext w16 w17 := hx17
    refine ⟨hE_, fun w18 hc_ => ?_⟩
    have hz18 := hc_.size
    have hE := hE.step hc_ (fun k h => by omega)
    have hK := hK0.ext hE
    have hT := hT.chg hc_ (fun h => by omega) (fun h => by omega) (fun e he k hk h => by have := hNB e he k hk; omega)
    have hB3 := hB3.chg hc_ (fun h => by omega)
    have hB4 := hB4.chg hc_ (fun h => by omega)
    have hB5 := hB5.chg hc_ (fun h => by omega)
    have hB8 := hB8.chg hc_ (fun h => by omega)
    have hB9 := hB9.chg hc_ (fun h => by omega)
    have hB10 := hB10.chg hc_ (fun h => by omega)
    have hC : Chg (fun k => k = g ∨ k = r ∨ k = g9 ∨ k = g4) w18 w18 := Chg.refl
    refine CW.block ?_   -- block 3
    refine CW.seq fun K16 hK16 => ?_
    refine CW.seq fun K17 hK17 => ?_
    refine CW.region ?_   -- region 12
    refine WL.val (Y.load1 Tryd.underlying3 rfl hB9.mem.cell0 rfl) (by first | decide | exact Nat.le_of_ble_eq_true rfl) ?_   -- t38 := load 3 t9
    refine WL.val (Y.load1 Tryd.underlying3 rfl hB3.mem.cell0 rfl) (by first | decide | exact Nat.le_of_ble_eq_true rfl) ?_   -- t39 := load 3 t3
    refine WL.val (Y.eql rfl rfl) (by first | decide | exact Nat.le_of_ble_eq_true rfl) ?_   -- t40 := binOp eql 3 t38 t39 3
    refine WL.nil ?_
    refine hK17 _ _ ?_; try clear hK17 K17
    first | refine CW.condD rfl (fun ht18 => ?_) (fun ht18 => ?_) | refine CW.condND rfl (fun ht18 => ?_) (fun ht18 => ?_) | refine CW.condN rfl (fun ht18 => ?_) (fun ht18 => ?_) | refine CW.cond rfl (fun ht18 => ?_) (fun ht18 => ?_)
    · -- then
      refine CW.seq fun K19 hK19 => ?_
      refine CW.region ?_   -- region 13
      refine WL.val (Y.load1 Tryd.underlying3 rfl hB8.mem.cell0 rfl) (by first | decide | exact Nat.le_of_ble_eq_true rfl) ?_   -- t41 := load 3 t8
      refine WL.store (g := g9) (pre := []) (old := [.int .i64 (i_ : Int)]) (post := []) (new := [.int .i64 (l.length : Int)]) rfl rfl rfl rfl (by kernel_rfl) (by simpa using hB9) (by first | rfl | (simp [digC_length, opC_length]; done) | (simp only [digC_length, opC_length]; omega)) (one1 rfl) (fun w19 hc19 hB19_ => ?_)   -- _ := store 3 t9 t41
      have hz19 := hc19.size; have hE := hE.step hc19 (fun k h => by omega); have hT := hT.chg hc19 (fun h => by omega) (fun h => by omega) (fun e he k hk h => by have := hNB e he k hk; omega); have hK := hK.chg hc19 (fun h => by change 0 = _ at h; omega); have hB3 := hB3.chg hc19 (fun h => by omega); have hB4 := hB4.chg hc19 (fun h => by omega); have hB5 := hB5.chg hc19 (fun h => by omega); have hB8 := hB8.chg hc19 (fun h => by omega); have hC := hC.trans hc19 (fun k _ h => by omega); have hB10 := hB10.chg hc19 (fun h => by omega)
      have hB9 : Blk w19 g9 3 [.int .i64 (l.length : Int)] := by simpa using hB19_
      refine WL.nil ?_
      refine hK19 _ _ ?_; try clear hK19 K19
      refine CW.exit ?_   -- exit 2
      exact ⟨.inl ⟨rfl, ⟨⟨l2, hT, hNB⟩, hB3, hB4, hB5, hB8, hB9, hE⟩⟩, hC.mono fun k _ h => by omega⟩
    -- else
    refine CW.skip ?_
    refine hK16 _ _ ?_; try clear hK16 K16
    refine CW.seq fun K20 hK20 => ?_
    refine CW.seq fun K21 hK21 => ?_
    refine CW.quiet (fun wq => Ext w18 wq) (by kernel_rfl) (by kernel_rfl) Chg.drew ?_
    refine QL.val (fun wq hq => Y.load1 Tryd.underlying23 rfl (hB5.ext hq).mem.cell0 rfl) (by first | decide | exact Nat.le_of_ble_eq_true rfl) ?_   -- t42 := load 23 t5
    refine QL.call Tryd.func17 rfl rfl rfl (fun wq hq => ret_ext (count_any g r l2 3 _ (hT.ext hq)) hq) (by simp) ?_   -- t43 := call F17(t42, c(3:i64)) : 23,3
    refine QL.val (fun wq hq => Y.load1 Tryd.underlying23 rfl (hB5.ext hq).mem.cell0 rfl) (by first | decide | exact Nat.le_of_ble_eq_true rfl) ?_   -- t44 := load 23 t5
    refine QL.call Tryd.func12 rfl rfl rfl (fun wq hq => ret_ext (stLen_any g r l2 _ (hT.ext hq)) hq) (by simp) ?_   -- t45 := call F12(t44) : 23
    refine QL.val (fun wq hq => Y.gtr rfl rfl) (by first | decide | exact Nat.le_of_ble_eq_true rfl) ?_   -- t46 := binOp gtr 3 t43 t45 3
    refine QL.nil fun w20 hx20 => ?_
    have hz20 := hx20.size
    have hE := hE.thenExt hx20
    have hT := hT.ext hx20
    have hK := hK.ext hx20
    have hB3 := hB3.ext hx20
    have hB4 := hB4.ext hx20
    have hB5 := hB5.ext hx20
    have hB8 := hB8.ext hx20
    have hB9 := hB9.ext hx20
    have hC := hC.ext hx20
    have hB10 := hB10.ext hx20
    refine hK21 _ _ ?_; try clear hK21 K21
    first | refine CW.condD rfl (fun ht22 => ?_) (fun ht22 => ?_) | refine CW.condND rfl (fun ht22 => ?_) (fun ht22 => ?_) | refine CW.condN rfl (fun ht22 => ?_) (fun ht22 => ?_) | refine CW.cond rfl (fun ht22 => ?_) (fun ht22 => ?_)
    · -- then
      refine CW.seq fun K23 hK23 => ?_
      refine CW.region ?_   -- region 15
      refine WL.store (g := g4) (pre := []) (old := [.bool false]) (post := []) (new := [.bool false]) rfl rfl rfl rfl (by kernel_rfl) (by simpa using hB4) (by first | rfl | (simp [digC_length, opC_length]; done) | (simp only [digC_length, opC_length]; omega)) (one1 rfl) (fun w21 hc21 hB21_ => ?_)   -- _ := store 4 t4 c(false)
      have hz21 := hc21.size; have hE := hE.step hc21 (fun k h => by omega); have hT := hT.chg hc21 (fun h => by omega) (fun h => by omega) (fun e he k hk h => by have := hNB e he k hk; omega); have hK := hK.chg hc21 (fun h => by change 0 = _ at h; omega); have hB3 := hB3.chg hc21 (fun h => by omega); have hB5 := hB5.chg hc21 (fun h => by omega); have hB8 := hB8.chg hc21 (fun h => by omega); have hB9 := hB9.chg hc21 (fun h => by omega); have hC := hC.trans hc21 (fun k _ h => by omega); have hB10 := hB10.chg hc21 (fun h => by omega)
      have hB4 : Blk w21 g4 4 [.bool false] := by simpa using hB21_
      refine WL.nil ?_
      refine hK23 _ _ ?_; try clear hK23 K23
      refine CW.ret ?_
      exact absurd ht22 (by have := cntL_le l2.length 3; omega)
    -- else
    refine CW.skip ?_
    refine hK20 _ _ ?_; try clear hK20 K20
    refine CW.seq fun K24 hK24 => ?_
    refine CW.region ?_   -- region 16
    refine WL.val (Y.load1 Tryd.underlying23 rfl hB5.mem.cell0 rfl) (by first | decide | exact Nat.le_of_ble_eq_true rfl) ?_   -- t47 := load 23 t5
    refine WL.val (Y.load Tryd.underlying28 rfl hB10.mem (sz_apiDigest _) rfl) (by first | decide | exact Nat.le_of_ble_eq_true rfl) ?_   -- t48 := load 28 t10
    refine WL.call Tryd.func15 rfl rfl rfl (stDrop_any g r l2 x_.1 _ hT) (by simp) ?_; rintro v49 w22 hR22   -- t49 := call F15(t47, t48) : 23,28
    obtain ⟨rfl, hT, hc22⟩ := hR22
    have hz22 := hc22.size
    have hE := hE.step hc22 (fun k h => by rcases h with h | h <;> omega)
    have hK := hK0.ext hE
    have hC := hC.trans hc22 (fun k _ h => by omega)
    have hNB : ∀ e ∈ dropL l2 x_.1, ∀ k, e.v.ownBlock = some k → k ≠ g3 ∧ k ≠ g4 ∧ k ≠ g5 ∧ k ≠ g8 ∧ k ≠ g9 ∧ k ≠ w15.heap.size ∧ k ≠ w15.heap.size + 1 := fun e he => hNB e (dropL_mem he)
    have hB3 := hB3.chg hc22 (fun h => by rcases h with h | h <;> omega)
    have hB4 := hB4.chg hc22 (fun h => by rcases h with h | h <;> omega)
    have hB5 := hB5.chg hc22 (fun h => by rcases h with h | h <;> omega)
    have hB8 := hB8.chg hc22 (fun h => by rcases h with h | h <;> omega)
    have hB9 := hB9.chg hc22 (fun h => by rcases h with h | h <;> omega)
    have hB10 := hB10.chg hc22 (fun h => by rcases h with h | h <;> omega)
    refine WL.nil ?_
    refine hK24 _ _ ?_; try clear hK24 K24
    refine CW.seq fun K25 hK25 => ?_
    refine CW.region ?_   -- region 17
    refine WL.val (Y.load1 Tryd.underlying23 rfl hB5.mem.cell0 rfl) (by first | decide | exact Nat.le_of_ble_eq_true rfl) ?_   -- t50 := load 23 t5
    refine WL.val (Y.load1 Tryd.underlying3 rfl hB9.mem.cell0 rfl) (by first | decide | exact Nat.le_of_ble_eq_true rfl) ?_   -- t51 := load 3 t9
    refine WL.val (Y.conv_int Tryd.underlying3 Tryd.underlying5 rfl) (by first | decide | exact Nat.le_of_ble_eq_true rfl) ?_   -- t52 := convert 3 5 t51
    rw [u8_of]
    refine WL.st (St.buildSlice rfl (bs4_u8 _ _ _ _)) (by first | decide | exact Nat.le_of_ble_eq_true rfl) fun v53 w23 hR23 => ?_   -- t53 := buildSlice 26 4 [(0,t52), (1,c(1:u8)), (2,c(2:u8)), (3,c(3:u8))]
    obtain ⟨g53, rfl, hg53, hB53, hx23⟩ := hR23
    have hz23 := hx23.size
    have hE := hE.thenExt hx23
    have hT := hT.ext hx23
    have hK := hK.ext hx23
    have hB3 := hB3.ext hx23
    have hB4 := hB4.ext hx23
    have hB5 := hB5.ext hx23
    have hB8 := hB8.ext hx23
    have hB9 := hB9.ext hx23
    have hB10 := hB10.ext hx23
    have hC := hC.ext hx23
    have hlt53 := hB53.lt
    have hby : By w23 (.slice (some ⟨g53, 0, none⟩) 4 4) [UInt8.ofNat i_, 1, 2, 3] := ⟨_, 4, 4, rfl, rfl, Nat.le_refl _, by unfold maxLen; decide, fun _ => ⟨_, rfl, hB53.mem⟩, (fun h => by cases h)⟩
    refine WL.call Tryd.func9 rfl rfl rfl (stPut_any g r _ _ [UInt8.ofNat i_, 1, 2, 3] _ hT hK ⟨by omega, by omega⟩ hby (fun h0 k hk => by simp [Value.ownBlock] at hk; omega)) (by simp) ?_; rintro v54 w24 hR24   -- t54 := call F9(t50, t53) : 23,26
    obtain ⟨rfl, ⟨l4, ⟨_, hfr⟩, hT⟩, hc24⟩ := hR24
    have hz24 := hc24.size
    have hE := hE.step hc24 (fun k h => by rcases h with h | h <;> omega)
    have hK := hK0.ext hE
    have hB3 := hB3.chg hc24 (fun h => by rcases h with h | h <;> omega)
    have hB4 := hB4.chg hc24 (fun h => by rcases h with h | h <;> omega)
    have hB5 := hB5.chg hc24 (fun h => by rcases h with h | h <;> omega)
    have hB8 := hB8.chg hc24 (fun h => by rcases h with h | h <;> omega)
    have hB9 := hB9.chg hc24 (fun h => by rcases h with h | h <;> omega)
    have hB10 := hB10.chg hc24 (fun h => by rcases h with h | h <;> omega)
    have hC := hC.trans hc24 (fun k _ h => by omega)
    have hNB : ∀ e ∈ l4, ∀ k, e.v.ownBlock = some k → k ≠ g3 ∧ k ≠ g4 ∧ k ≠ g5 ∧ k ≠ g8 ∧ k ≠ g9 ∧ k ≠ w15.heap.size ∧ k ≠ w15.heap.size + 1 := by
      intro e he k hk
      rcases hfr e he with h | h
      · exact hNB e h k hk
      · have := h k hk; omega
    refine WL.nil ?_
    refine hK25 _ _ ?_; try clear hK25 K25
    refine CW.region ?_   -- region 18
    refine WL.val (Y.load1 Tryd.underlying3 rfl hB9.mem.cell0 rfl) (by first | decide | exact Nat.le_of_ble_eq_true rfl) ?_   -- t55 := load 3 t9
    refine WL.val (Y.add rfl rfl ⟨by omega, by omega⟩) (by first | decide | exact Nat.le_of_ble_eq_true rfl) ?_   -- t56 := binOp add 3 t55 c(1:i64) 3
    refine WL.store (g := g9) (pre := []) (old := [.int .i64 (i_ : Int)]) (post := []) (new := [.int .i64 ((i_ : Int) + 1)]) rfl rfl rfl rfl (by kernel_rfl) (by simpa using hB9) (by first | rfl | (simp [digC_length, opC_length]; done) | (simp only [digC_length, opC_length]; omega)) (one1 rfl) (fun w25 hc25 hB25_ => ?_)   -- _ := store 3 t9 t56
    have hz25 := hc25.size; have hE := hE.step hc25 (fun k h => by omega); have hT := hT.chg hc25 (fun h => by omega) (fun h => by omega) (fun e he k hk h => by have := hNB e he k hk; omega); have hK := hK.chg hc25 (fun h => by change 0 = _ at h; omega); have hB3 := hB3.chg hc25 (fun h => by omega); have hB4 := hB4.chg hc25 (fun h => by omega); have hB5 := hB5.chg hc25 (fun h => by omega); have hB8 := hB8.chg hc25 (fun h => by omega); have hC := hC.trans hc25 (fun k _ h => by omega); have hB10 := hB10.chg hc25 (fun h => by omega)
    have hB9 : Blk w25 g9 3 [.int .i64 ((i_ : Int) + 1)] := by simpa using hB25_
    refine WL.nil ?_
    exact ⟨⟨hbl, hlo, ⟨⟨l4, hT, hNB⟩, hB3, hB4, hB5, hB8, by simpa using hB9, hE⟩⟩, hC.mono fun k _ h => ⟨fun hk => by have := hk.1; omega, by omega, by omega⟩⟩
  · intro s_ w26 hi_ hD_
    obtain ⟨hbl, hlo, hi_⟩ := hi_
    have hxl : (allXs l s_).length = l.length := by simp only [allXs, List.length_zip, namesL_length, hbl]; omega
    rw [hxl] at hi_
    obtain ⟨⟨l2, hT, hNB⟩, hB3, hB4, hB5, hB8, hB9, hE⟩ := hi_
    have hK := hK0.ext hE
    refine hK14 _ _ _ ?_; try clear hK14 K14
    refine CN.seq fun K26 hK26 => ?_
    refine CN.of_CW ?_
    refine CW.region ?_   -- region 19
    refine WL.val (Y.load1 Tryd.underlying3 rfl hB9.mem.cell0 rfl) (by first | decide | exact Nat.le_of_ble_eq_true rfl) ?_   -- t57 := load 3 t9
    refine WL.val (Y.load1 Tryd.underlying3 rfl hB8.mem.cell0 rfl) (by first | decide | exact Nat.le_of_ble_eq_true rfl) ?_   -- t58 := load 3 t8
    refine WL.val (Y.eql rfl rfl) (by first | decide | exact Nat.le_of_ble_eq_true rfl) ?_   -- t59 := binOp eql 3 t57 t58 3
    refine WL.store (g := g4) (pre := []) (old := [.bool false]) (post := []) (new := [.bool (decide ((l.length : Int) = (l.length : Int)))]) rfl rfl rfl rfl (by kernel_rfl) (by simpa using hB4) (by first | rfl | (simp [digC_length, opC_length]; done) | (simp only [digC_length, opC_length]; omega)) (one1 rfl) (fun w27 hc27 hB27_ => ?_)   -- _ := store 4 t4 t59
    have hz27 := hc27.size; have hE := hE.step hc27 (fun k h => by omega); have hK := hK.chg hc27 (fun h => by change 0 = _ at h; omega); have hT := hT.chg hc27 (fun h => by omega) (fun h => by omega) (fun e he k hk h => by have := hNB e he k hk; omega); have hB3 := hB3.chg hc27 (fun h => by omega); have hB5 := hB5.chg hc27 (fun h => by omega); have hB8 := hB8.chg hc27 (fun h => by omega); have hB9 := hB9.chg hc27 (fun h => by omega)
    have hB4 : Blk w27 g4 4 [.bool true] := by simpa using hB27_
    refine WL.nil ?_
    refine hK26 _ _ _ ?_; try clear hK26 K26
    refine CN.ret ?_
    exact ⟨[w15.heap.size], rfl, by simp, (fun D hD => by simp at hD; subst hD; exact def_chg hD_ hc27 (fun h => by omega)), fun w_ hc => ⟨_, _, rfl, ((hB4.chg hc (fun h => by simp at h; omega)).mem).cell0, rfl, hE.step hc (fun k h => by simp at h; omega)⟩⟩
  · intro s_ e_ w28 hi_ hD_ he_
    rcases hi_ with ⟨rfl, hi_⟩ | hi_
    · skip
      obtain ⟨⟨l2, hT, hNB⟩, hB3, hB4, hB5, hB8, hB9, hE⟩ := hi_
      have hK := hK0.ext hE
      refine hK14 _ _ _ ?_; try clear hK14 K14
      refine CN.seq fun K27 hK27 => ?_
      refine CN.of_CW ?_
      refine CW.region ?_   -- region 19
      refine WL.val (Y.load1 Tryd.underlying3 rfl hB9.mem.cell0 rfl) (by first | decide | exact Nat.le_of_ble_eq_true rfl) ?_   -- t57 := load 3 t9
      refine WL.val (Y.load1 Tryd.underlying3 rfl hB8.mem.cell0 rfl) (by first | decide | exact Nat.le_of_ble_eq_true rfl) ?_   -- t58 := load 3 t8
      refine WL.val (Y.eql rfl rfl) (by first | decide | exact Nat.le_of_ble_eq_true rfl) ?_   -- t59 := binOp eql 3 t57 t58 3
      refine WL.store (g := g4) (pre := []) (old := [.bool false]) (post := []) (new := [.bool (decide ((l.length : Int) = (l.length : Int)))]) rfl rfl rfl rfl (by kernel_rfl) (by simpa using hB4) (by first | rfl | (simp [digC_length, opC_length]; done) | (simp only [digC_length, opC_length]; omega)) (one1 rfl) (fun w29 hc29 hB29_ => ?_)   -- _ := store 4 t4 t59
      have hz29 := hc29.size; have hE := hE.step hc29 (fun k h => by omega); have hK := hK.chg hc29 (fun h => by change 0 = _ at h; omega); have hT := hT.chg hc29 (fun h => by omega) (fun h => by omega) (fun e he k hk h => by have := hNB e he k hk; omega); have hB3 := hB3.chg hc29 (fun h => by omega); have hB5 := hB5.chg hc29 (fun h => by omega); have hB8 := hB8.chg hc29 (fun h => by omega); have hB9 := hB9.chg hc29 (fun h => by omega)
      have hB4 : Blk w29 g4 4 [.bool true] := by simpa using hB29_
      refine WL.nil ?_
      refine hK27 _ _ _ ?_; try clear hK27 K27
      refine CN.ret ?_
      exact ⟨[w15.heap.size], rfl, by simp, (fun D hD => by simp at hD; subst hD; exact def_chg hD_ hc29 (fun h => by omega)), fun w_ hc => ⟨_, _, rfl, ((hB4.chg hc (fun h => by simp at h; omega)).mem).cell0, rfl, hE.step hc (fun k h => by simp at h; omega)⟩⟩
    obtain ⟨rfl, hi_⟩ := hi_
    exact hi_.elim
    skip
end Go.Proofs.YtkbmlnkoejlgmaaDoor
