/- The reader of a commit: digests and operations, walked. No condition. -/
import Derived.Test.YtoncdfpohdchgaaDoorRd
set_option linter.unusedSimpArgs false
set_option linter.unusedVariables false
namespace Go.Proofs.YtoncdfpohdchgaaDoor
open Go.RowKit Go.Fw Go.Pl
theorem gdig_ok {b : List UInt8} {k : Nat} {d : Dig} (h : k + 32 ≤ b.length) (hd : d.1 = (b.drop k).take 32) : gdig b k = .ok (d, k + 32) := by
  have : d = ⟨(b.drop k).take 32, by rw [List.length_take, List.length_drop]; omega⟩ := Subtype.ext hd
  rw [gdig, dif_pos h, this]
abbrev W2 (n c : Nat) : Int := IntKind.i64.wrap ((BitVec.ofInt IntKind.i64.bits (n : Int) &&& BitVec.ofInt IntKind.i64.bits (c : Int)).toNat : Int)
theorem and2 {n : Nat} (h : n < 12) : W2 n 2 = if n / 2 % 2 = 1 then 2 else 0 := (by decide +kernel : ∀ n, n < 12 → W2 n 2 = if n / 2 % 2 = 1 then 2 else 0) n h
theorem and1 {n : Nat} (h : n < 12) : W2 n 1 = if n % 2 = 1 then 1 else 0 := (by decide +kernel : ∀ n, n < 12 → W2 n 1 = if n % 2 = 1 then 1 else 0) n h
theorem and8 {n : Nat} (h : n < 12) : W2 n 8 = if 8 ≤ n then 8 else 0 := (by decide +kernel : ∀ n, n < 12 → W2 n 8 = if 8 ≤ n then 8 else 0) n h
theorem and12 {n : Nat} (h : n < 12) : W2 n 12 = if 4 ≤ n then ((n / 4 * 4 : Nat) : Int) else 0 := (by decide +kernel : ∀ n, n < 12 → W2 n 12 = if 4 ≤ n then ((n / 4 * 4 : Nat) : Int) else 0) n h
theorem and4 {n : Nat} (h : n < 12) : W2 n 4 = if n / 4 = 1 then 4 else 0 := (by decide +kernel : ∀ n, n < 12 → W2 n 4 = if n / 4 = 1 then 4 else 0) n h
theorem ne_if {p : Prop} [Decidable p] {c : Int} (hc : c ≠ 0) : decide ((if p then c else 0) ≠ 0) = decide p := by by_cases h : p <;> simp [h, hc]
theorem if_ne {p : Prop} [Decidable p] {c : Int} (h : (if p then c else 0) ≠ 0) : p := by
  by_cases hp : p
  · exact hp
  · rw [if_neg hp] at h; exact absurd rfl h
theorem if_eq {p : Prop} [Decidable p] {c : Int} (h : ¬ (if p then c else 0) ≠ 0) (hc : c ≠ 0) : ¬ p := fun hp => h (by rw [if_pos hp]; exact hc)
theorem build_opKL (b : Bool) (w : World) : (Instr.build 132 [(0, Value.int .i64 1), (1, Value.bool b)].toArray).run Tryd.prog w = .ok (.agg (opC ⟨1, b, RefD.zero, 0⟩).toArray) w := run_build w _ _ _ (by cases b <;> kernel_rfl)
theorem opC_k (x : OpD) : opC x = [] ++ [.int .i64 x.kind] ++ (.bool x.left :: (refC x.at_ ++ [bc x.byte])) := rfl
theorem opC_o (x : OpD) : opC x = [.int .i64 x.kind, .bool x.left] ++ [.bool x.at_.own] ++ (digC x.at_.c ++ [.int .i64 x.at_.n] ++ [bc x.byte]) := by simp [opC, refC]
theorem opC_c (x : OpD) : opC x = [.int .i64 x.kind, .bool x.left, .bool x.at_.own] ++ digC x.at_.c ++ [.int .i64 x.at_.n, bc x.byte] := by simp [opC, refC]
theorem opC_n (x : OpD) : opC x = (([.int .i64 x.kind, .bool x.left, .bool x.at_.own] ++ digC x.at_.c) ++ [.int .i64 x.at_.n]) ++ [bc x.byte] := by simp [opC, refC]
theorem opC_b (x : OpD) : opC x = (([.int .i64 x.kind, .bool x.left, .bool x.at_.own] ++ digC x.at_.c ++ [.int .i64 x.at_.n]) ++ [bc x.byte]) ++ [] := by simp [opC, refC]

theorem pdigest_any (g : Nat) (t : TypeId) (bv : Value) (bs_ : List UInt8) (at_ : Nat) (rest : List Value) (w : World) (hB : Blk w g t (bv :: .int .i64 (at_ : Int) :: rest)) (hb : By w bv bs_) (hbg : bs_ ≠ [] → ∀ k, bv.ownBlock = some k → k ≠ g) (hat : at_ ≤ bs_.length) : Calls Tryd.prog 67 #[.pointer (some ⟨g, 0, none⟩)] w (RetOr (RdR (gdig bs_ at_) (fun d => digV d) g t bv rest w) (RdS (gdig bs_ at_) g w)) := by
  have hgl := hB.lt
  obtain ⟨i, hi, hz, hs⟩ := info_apiDigest
  refine calls_of_CWc_or 7 2 32 [(0, .pointer (some ⟨g, 0, none⟩))] Tryd.func67 rfl rfl rfl Tryd.underlying31 rfl (by kernel_rfl) (by simp) args1 ?_
  refine CW.seq fun K1 hK1 => ?_
  refine CW.region ?_   -- region 0
  refine WL.alloc (hi) (hz) rfl (by decide) fun g2 w1 hx1 hg2 hB2 => ?_   -- t2 := alloc 31
  have hM2 := hB2.mem; have hB := hB.ext hx1; have hb := hb.ext hx1
  refine WL.nil ?_
  refine hK1 _ _ ?_; try clear hK1 K1
  refine CW.seq fun K2 hK2 => ?_
  refine CW.region ?_   -- region 1
  refine WL.val (Y.move rfl) (by decide) ?_   -- t3 := move t0
  refine WL.callOr Tryd.func74 rfl rfl rfl (pbytes_any g t bv bs_ at_ 32 rest _ hB hb hbg hat (by decide) (by decide)) (by simp) (fun ch w2 hP2 => ?_) ?_   -- t4 := call F74(t3, c(32:i64)) : 140,3
  · skip
    obtain ⟨h1, rfl, hc⟩ := hP2
    exact (⟨8, by rw [gdig, dif_neg (by omega)], rfl, (Ext.chg hx1).trans hc (fun _ _ h => h)⟩ : RdS (gdig bs_ at_) g w _ _)
  rintro v4 w2 hR2
  obtain ⟨hle, a, c, rfl, hMa, hc2, hB⟩ := hR2
  have hB2 := hB2.chg hc2 (fun e => by omega)
  obtain ⟨d, hd⟩ : ∃ d : Dig, d.1 = (bs_.drop at_).take 32 := ⟨⟨_, by rw [List.length_take, List.length_drop]; omega⟩, rfl⟩
  rw [← hd] at hMa
  refine WL.val (Y.toArr Tryd.underlying31 rfl (Nat.le_refl _)) (by decide) ?_   -- t5 := sliceToArrayPointer 31 t4
  refine WL.val (Y.load Tryd.underlying31 rfl (show Mem _ a (digC d) from hMa) (sz_apiDigest _) rfl) (by decide) ?_   -- t6 := load 31 t5
  refine WL.store (pre := []) (old := digC Dig.zero) (post := []) (new := digC d) rfl rfl rfl rfl (sz_apiDigest _) (by simpa using hB2) (by first | rfl | (simp [digC_length, opC_length]; done) | (simp only [digC_length, opC_length]; omega)) (one_digC) (fun w3 hc3 hB3_ => ?_)   -- _ := store 31 t2 t6
  have hB2 : Blk w3 g2 31 (digC d) := by simpa using hB3_
  refine WL.nil ?_
  refine hK2 _ _ ?_; try clear hK2 K2
  refine CW.ret ?_
  refine ⟨_, _, rfl, hB2.mem, digC_length d, ?_⟩
  exact ⟨d, at_ + 32, gdig_ok hle hd, rfl, ((Ext.chg hx1).trans hc2 (fun _ _ h => h)).trans hc3 (fun i h1 h2 => by omega), hB.chg hc3 (fun e => by omega)⟩
theorem pop_any (g : Nat) (t : TypeId) (bv : Value) (bs_ : List UInt8) (at_ : Nat) (rest : List Value) (w : World) (hB : Blk w g t (bv :: .int .i64 (at_ : Int) :: rest)) (hb : By w bv bs_) (hbg : bs_ ≠ [] → ∀ k, bv.ownBlock = some k → k ≠ g) (hat : at_ ≤ bs_.length) : Calls Tryd.prog 69 #[.pointer (some ⟨g, 0, none⟩)] w (RetOr (RdR (gop bs_ at_) (fun x => opV x) g t bv rest w) (RdS (gop bs_ at_) g w)) := by
  have hgl := hB.lt
  have hB0 := hB
  have hb0 := hb
  obtain ⟨i, hi, hz, hs⟩ := info_apiOp
  refine calls_of_CWc_or 65 2 37 [(0, .pointer (some ⟨g, 0, none⟩))] Tryd.func69 rfl rfl rfl Tryd.underlying132 rfl (by kernel_rfl) (by simp) args1 ?_
  refine CW.seq fun K1 hK1 => ?_
  refine CW.region ?_   -- region 0
  refine WL.alloc (hi) (hz) rfl (by decide) fun g2 w1 hx1 hg2 hB2 => ?_   -- t2 := alloc 132
  have hM2 := hB2.mem; have hB := hB.ext hx1; have hb := hb.ext hx1
  refine WL.nil ?_
  refine hK1 _ _ ?_; try clear hK1 K1
  refine CW.seq fun K2 hK2 => ?_
  refine CW.region ?_   -- region 1
  refine WL.val (Y.move rfl) (by decide) ?_   -- t5 := move t0
  refine WL.val (Y.nilCheck rfl) (by decide) ?_   -- t6 := nilCheck t5
  refine WL.val (Y.fieldAddr fo_commitreader0 rfl) (by decide) ?_   -- t7 := fieldAddr 111 t6 0
  refine WL.callOr Tryd.func65 rfl rfl rfl (pnum_any g t bv bs_ at_ rest _ hB hb hbg hat) (by simp) (fun ch w2 hP2 => ?_) ?_   -- t8 := call F65(t7) : 109
  · skip
    obtain ⟨e, h1, rfl, hc⟩ := hP2
    exact (⟨e, by rw [gop, h1], rfl, (Ext.chg hx1).trans hc (fun _ _ h => h)⟩ : RdS (gop bs_ at_) g w _ _)
  rintro v8 w2 hR2
  obtain ⟨n, a1, hg1, rfl, hc2, hB⟩ := hR2
  have hB2 := hB2.chg hc2 (fun e => by omega)
  have hb := hb.chg hc2 hbg
  have hC := (Ext.chg hx1).trans hc2 (fun _ _ h => h)
  have hl1 := gnum_len hg1 hat
  refine WL.val (Y.assign rfl) (by decide) ?_   -- t3 := assign t8
  refine WL.nil ?_
  refine hK2 _ _ ?_; try clear hK2 K2
  refine CW.seq fun K3 hK3 => ?_
  refine CW.region ?_   -- region 2
  refine WL.val (Y.move rfl) (by decide) ?_   -- t9 := move t0
  refine WL.val (Y.nilCheck rfl) (by decide) ?_   -- t10 := nilCheck t9
  refine WL.val (Y.fieldAddr fo_commitreader0 rfl) (by decide) ?_   -- t11 := fieldAddr 111 t10 0
  refine WL.val (Y.move rfl) (by decide) ?_   -- t12 := move t3
  refine WL.val (Y.geq rfl rfl) (by decide) ?_   -- t13 := binOp geq 3 t12 c(12:i64) 3
  refine WL.callOr Tryd.func66 rfl rfl rfl (refuse_any _ _ _ _) (by simp) (fun ch w3 hP3 => ?_) ?_   -- t14 := call F66(t11, t13, c(7:i64)) : 109,4,23
  · skip
    obtain ⟨h1, rfl, hx⟩ := hP3
    have := of_decide_eq_true h1
    exact (⟨7, by rw [gop, hg1]; simp only []; rw [if_pos (by omega)], rfl, hC.thenExt hx⟩ : RdS (gop bs_ at_) g w _ _)
  rintro v14 w3 hR3
  obtain ⟨h1, rfl, hx3⟩ := hR3
  have hn := of_decide_eq_false h1
  have hn : n < 12 := by omega
  have hB := hB.ext hx3
  have hB2 := hB2.ext hx3
  have hb := hb.ext hx3
  have hC := hC.thenExt hx3
  have hs3 := hC.size
  have hl2 : g2 < w3.heap.size := hB2.lt
  refine WL.nil ?_
  refine hK3 _ _ ?_; try clear hK3 K3
  refine CW.seq fun K4 hK4 => ?_
  refine CW.region ?_   -- region 3
  refine WL.val (Y.move rfl) (by decide) ?_   -- t15 := move t3
  refine WL.val (Y.and_k rfl rfl (and2 hn)) (by decide) ?_   -- t16 := binOp and 3 t15 c(2:i64) 3
  refine WL.val (Y.neq rfl rfl) (by decide) ?_   -- t17 := binOp neq 3 t16 c(0:i64) 3
  refine WL.val (Y.build rfl (build_opKL _ _)) (by decide) ?_   -- t18 := build 132 [(0,c(1:i64)), (1,t17)]
  refine as_apiOp rfl (by simp) (by decide) fun g4 w4 hx4 hg4 hB4 => ?_   -- alloc 132; store 132 t4 t18
  have hM4 := hB4.mem; have hB := hB.ext hx4; have hb := hb.ext hx4; have hB2 := hB2.ext hx4
  refine WL.nil ?_
  refine hK4 _ _ ?_; try clear hK4 K4
  refine CW.seq_to (X := Unit) (fun _ => [(0, .pointer (some ⟨g, 0, none⟩)), (2, .pointer (some ⟨g2, 0, none⟩)), (3, .int .i64 (n : Int)), (4, .pointer (some ⟨g4, 0, none⟩))]) (fun _ w0 => Chg (· = g) w w0 ∧ Blk w0 g t (bv :: .int .i64 (a1 : Int) :: rest) ∧ (∃ zs, Blk w0 g2 132 zs ∧ zs.length = 37) ∧ Blk w0 g4 132 (opC ⟨(if n % 2 = 0 then 1 else 2), (decide (n / 2 % 2 = 1)), RefD.zero, 0⟩)) ?_ ?_
  · skip
    refine CW.seq fun K6 hK6 => ?_
    rw [ne_if (c := 2) (by decide)] at hB4 hM4
    refine CW.region ?_   -- region 4
    refine WL.val (Y.move rfl) (by decide) ?_   -- t19 := move t3
    refine WL.val (Y.and_k rfl rfl (and1 hn)) (by decide) ?_   -- t20 := binOp and 3 t19 c(1:i64) 3
    refine WL.val (Y.neq rfl rfl) (by decide) ?_   -- t21 := binOp neq 3 t20 c(0:i64) 3
    refine WL.nil ?_
    refine hK6 _ _ ?_; try clear hK6 K6
    first | refine CW.condD rfl (fun ht7 => ?_) (fun ht7 => ?_) | refine CW.condND rfl (fun ht7 => ?_) (fun ht7 => ?_) | refine CW.condN rfl (fun ht7 => ?_) (fun ht7 => ?_) | refine CW.cond rfl (fun ht7 => ?_) (fun ht7 => ?_)
    · -- then
      refine CW.region ?_   -- region 5
      refine WL.val (Y.fieldAddr fo_apiOp0 rfl) (by decide) ?_   -- t22 := fieldAddr 132 t4 0
      refine WL.store (pre := []) (old := [.int .i64 1]) (post := _) (new := [.int .i64 2]) rfl rfl rfl rfl (by kernel_rfl) hB4 (by first | rfl | (simp [digC_length, opC_length]; done) | (simp only [digC_length, opC_length]; omega)) (one1 rfl) (fun w5 hc5 hB5_ => ?_)   -- _ := store 3 t22 c(2:i64)
      skip
      refine WL.nil ?_
      refine ⟨(), (by repeat (first | exact Fr.le.nil | refine Fr.le.cons rfl ?_)), hC.thenExt hx4 |>.trans hc5 (fun i h1 h2 => by omega), hB.chg hc5 (fun e => by omega), ⟨_, hB2.chg hc5 (fun e => by omega), rfl⟩, ?_⟩
      have h1 := if_ne (by assumption)
      rw [if_neg (by omega)]
      exact hB5_
    -- else
    refine CW.skip ?_
    refine ⟨(), (by repeat (first | exact Fr.le.nil | refine Fr.le.cons rfl ?_)), hC.thenExt hx4, hB, ⟨_, hB2, rfl⟩, ?_⟩
    have h1 := if_eq (by assumption) (by decide)
    rw [if_pos (by omega)]
    exact hB4
  rintro u w6 hj6
  obtain ⟨hC, hB, ⟨zs, hB2, hzl⟩, hB4⟩ := hj6
  clear hb
  have hb := hb0.chg hC hbg
  generalize hKK : (if n % 2 = 0 then 1 else 2 : Int) = KK at hB4
  generalize hLL : decide (n / 2 % 2 = 1) = LL at hB4
  refine CW.seq_to (X := Dig × Nat) (fun u => [(0, .pointer (some ⟨g, 0, none⟩)), (2, .pointer (some ⟨g2, 0, none⟩)), (3, .int .i64 (n : Int)), (4, .pointer (some ⟨g4, 0, none⟩))]) (fun u w0 => gopD bs_ n a1 = .ok u ∧ u.2 ≤ bs_.length ∧ Chg (· = g) w w0 ∧ Blk w0 g t (bv :: .int .i64 (u.2 : Int) :: rest) ∧ (∃ zs, Blk w0 g2 132 zs ∧ zs.length = 37) ∧ Blk w0 g4 132 (opC ⟨(if n % 2 = 0 then 1 else 2), (decide (n / 2 % 2 = 1)), ⟨false, u.1, 0⟩, 0⟩)) ?_ ?_
  · skip
    refine CW.seq fun K9 hK9 => ?_
    refine CW.region ?_   -- region 6
    refine WL.val (Y.move rfl) (by decide) ?_   -- t23 := move t3
    refine WL.val (Y.and_k rfl rfl (and8 hn)) (by decide) ?_   -- t24 := binOp and 3 t23 c(8:i64) 3
    refine WL.val (Y.neq rfl rfl) (by decide) ?_   -- t25 := binOp neq 3 t24 c(0:i64) 3
    refine WL.nil ?_
    refine hK9 _ _ ?_; try clear hK9 K9
    first | refine CW.condD rfl (fun ht10 => ?_) (fun ht10 => ?_) | refine CW.condND rfl (fun ht10 => ?_) (fun ht10 => ?_) | refine CW.condN rfl (fun ht10 => ?_) (fun ht10 => ?_) | refine CW.cond rfl (fun ht10 => ?_) (fun ht10 => ?_)
    · -- then
      refine CW.region ?_   -- region 7
      refine WL.val (Y.move rfl) (by decide) ?_   -- t26 := move t0
      refine WL.val (Y.nilCheck rfl) (by decide) ?_   -- t27 := nilCheck t26
      refine WL.val (Y.fieldAddr fo_commitreader0 rfl) (by decide) ?_   -- t28 := fieldAddr 111 t27 0
      refine WL.callOr Tryd.func67 rfl rfl rfl (pdigest_any g t bv bs_ a1 rest _ hB hb hbg hl1.2) (by simp) (fun ch w7 hP7 => ?_) ?_   -- t29 := call F67(t28) : 109
      · skip
        obtain ⟨e, h1, rfl, hc⟩ := hP7
        have h8 := if_ne (by assumption)
        exact (⟨e, by rw [gop, hg1]; simp only []; rw [if_neg (by omega), gopD, if_pos h8, h1], rfl, hC.trans hc (fun _ _ h => h)⟩ : RdS (gop bs_ at_) g w _ _)
      rintro v29 w7 hR7
      obtain ⟨d, a2, hd1, rfl, hc7, hB⟩ := hR7
      have h8 := if_ne (by assumption)
      have hB2 := hB2.chg hc7 (fun e => by omega)
      have hl4 : g4 < w6.heap.size := hB4.lt
      have hB4 := hB4.chg hc7 (fun e => by omega)
      refine WL.val (Y.fieldAddr fo_apiOp2 rfl) (by decide) ?_   -- t30 := fieldAddr 132 t4 2
      refine WL.val (Y.fieldAddr fo_apiRef1 rfl) (by decide) ?_   -- t31 := fieldAddr 130 t30 1
      refine WL.store (g := g4) (pre := [.int .i64 KK, .bool LL, .bool false]) (old := digC Dig.zero) (post := [.int .i64 0, bc 0]) (new := digC d) rfl rfl rfl rfl (sz_apiDigest _) (by rw [opC_c] at hB4; exact hB4) (by first | rfl | (simp [digC_length, opC_length]; done) | (simp only [digC_length, opC_length]; omega)) (one_digC) (fun w8 hc8 hB8_ => ?_)   -- _ := store 31 t31 t29
      have hl7 := hc7.size
      refine WL.nil ?_
      refine ⟨(d, a2), (by repeat (first | exact Fr.le.nil | refine Fr.le.cons rfl ?_)), ?_, ?_, (hC.trans hc7 (fun _ _ h => h)).trans hc8 (fun i h1 h2 => by omega), hB.chg hc8 (fun e => by omega), ⟨zs, hB2.chg hc8 (fun e => by omega), hzl⟩, ?_⟩
      · rw [gopD, if_pos h8]; exact hd1
      · rw [gdig] at hd1; split at hd1
        · injection hd1 with hd1; injection hd1 with _ hd1; show a2 ≤ _; omega
        · cases hd1
      · rw [opC_c]; subst hKK; subst hLL; exact hB8_
    -- else
    refine CW.skip ?_
    have h8 := if_eq (by assumption) (by decide)
    refine ⟨(Dig.zero, a1), (by repeat (first | exact Fr.le.nil | refine Fr.le.cons rfl ?_)), ?_, hl1.2, hC, hB, ⟨zs, hB2, hzl⟩, ?_⟩
    · rw [gopD, if_neg h8]
    · subst hKK; subst hLL; exact hB4
  rintro u w9 hj9
  obtain ⟨d, a2⟩ := u
  clear hB hB2 hB4 hC
  obtain ⟨hgd, hl2_, hC, hB, ⟨zs2, hB2, hzl2⟩, hB4⟩ := hj9
  dsimp only at hgd hl2_ hB hB4
  clear hb
  have hb := hb0.chg hC hbg
  generalize hKK2 : (if n % 2 = 0 then 1 else 2 : Int) = KK2 at hB4
  generalize hLL2 : decide (n / 2 % 2 = 1) = LL2 at hB4
  refine CW.seq_to (X := Nat × Nat) (fun u => [(0, .pointer (some ⟨g, 0, none⟩)), (2, .pointer (some ⟨g2, 0, none⟩)), (3, .int .i64 (n : Int)), (4, .pointer (some ⟨g4, 0, none⟩))]) (fun u w0 => gopN bs_ n a2 = .ok u ∧ u.2 ≤ bs_.length ∧ Chg (· = g) w w0 ∧ Blk w0 g t (bv :: .int .i64 (u.2 : Int) :: rest) ∧ (∃ zs, Blk w0 g2 132 zs ∧ zs.length = 37) ∧ Blk w0 g4 132 (opC ⟨(if n % 2 = 0 then 1 else 2), (decide (n / 2 % 2 = 1)), ⟨(decide (n / 4 = 1)), d, (u.1 : Int)⟩, 0⟩)) ?_ ?_
  · skip
    refine CW.seq fun K12 hK12 => ?_
    refine CW.region ?_   -- region 8
    refine WL.val (Y.move rfl) (by decide) ?_   -- t32 := move t3
    refine WL.val (Y.and_k rfl rfl (and12 hn)) (by decide) ?_   -- t33 := binOp and 3 t32 c(12:i64) 3
    refine WL.val (Y.neq rfl rfl) (by decide) ?_   -- t34 := binOp neq 3 t33 c(0:i64) 3
    refine WL.nil ?_
    refine hK12 _ _ ?_; try clear hK12 K12
    first | refine CW.condD rfl (fun ht13 => ?_) (fun ht13 => ?_) | refine CW.condND rfl (fun ht13 => ?_) (fun ht13 => ?_) | refine CW.condN rfl (fun ht13 => ?_) (fun ht13 => ?_) | refine CW.cond rfl (fun ht13 => ?_) (fun ht13 => ?_)
    · -- then
      refine CW.seq fun K14 hK14 => ?_
      refine CW.region ?_   -- region 9
      refine WL.val (Y.move rfl) (by decide) ?_   -- t35 := move t3
      refine WL.val (Y.and_k rfl rfl (and4 hn)) (by decide) ?_   -- t36 := binOp and 3 t35 c(4:i64) 3
      refine WL.val (Y.neq rfl rfl) (by decide) ?_   -- t37 := binOp neq 3 t36 c(0:i64) 3
      refine WL.val (Y.fieldAddr fo_apiOp2 rfl) (by decide) ?_   -- t38 := fieldAddr 132 t4 2
      refine WL.val (Y.fieldAddr fo_apiRef0 rfl) (by decide) ?_   -- t39 := fieldAddr 130 t38 0
      refine WL.store (g := g4) (pre := [.int .i64 KK2, .bool LL2]) (old := [.bool false]) (post := digC d ++ [.int .i64 0] ++ [bc 0]) (new := [.bool (decide (n / 4 = 1))]) rfl rfl (by show some (Value.bool _) = _; rw [ne_if (by decide)]) rfl (by kernel_rfl) (by rw [opC_o] at hB4; exact hB4) (by first | rfl | (simp [digC_length, opC_length]; done) | (simp only [digC_length, opC_length]; omega)) (one1 rfl) (fun w10 hc10 hB10_ => ?_)   -- _ := store 4 t39 t37
      have hsz := hC.size
      have hB := hB.chg hc10 (fun e => by omega)
      have hB2 := hB2.chg hc10 (fun e => by omega)
      have hB4 : Blk w10 g4 132 (opC ⟨KK2, LL2, ⟨decide (n / 4 = 1), d, 0⟩, 0⟩) := by rw [opC_o]; exact hB10_
      have hC := hC.trans hc10 (fun i h1 h2 => by omega)
      have hb := hb0.chg hC hbg
      refine WL.nil ?_
      refine hK14 _ _ ?_; try clear hK14 K14
      refine CW.seq fun K15 hK15 => ?_
      refine CW.region ?_   -- region 10
      refine WL.val (Y.move rfl) (by decide) ?_   -- t40 := move t0
      refine WL.val (Y.nilCheck rfl) (by decide) ?_   -- t41 := nilCheck t40
      refine WL.val (Y.fieldAddr fo_commitreader0 rfl) (by decide) ?_   -- t42 := fieldAddr 111 t41 0
      refine WL.callOr Tryd.func65 rfl rfl rfl (pnum_any g t bv bs_ a2 rest _ hB hb hbg hl2_) (by simp) (fun ch w11 hP11 => ?_) ?_   -- t43 := call F65(t42) : 109
      · skip
        obtain ⟨e, h1, rfl, hc⟩ := hP11
        have h4 := if_ne (by assumption)
        exact (⟨e, by rw [gop, hg1]; simp only []; rw [if_neg (by omega), hgd]; simp only []; rw [gopN, if_pos h4, h1], rfl, hC.trans hc (fun _ _ h => h)⟩ : RdS (gop bs_ at_) g w _ _)
      rintro v43 w11 hR11
      obtain ⟨k, a3, hk, rfl, hc11, hB⟩ := hR11
      have hB2 := hB2.chg hc11 (fun e => by omega)
      have hl9 : g4 < w10.heap.size := hB4.lt
      have hB4 := hB4.chg hc11 (fun e => by omega)
      have hC := hC.trans hc11 (fun _ _ h => h)
      have hl10 := gnum_len hk hl2_
      refine WL.val (Y.fieldAddr fo_apiOp2 rfl) (by decide) ?_   -- t44 := fieldAddr 132 t4 2
      refine WL.val (Y.fieldAddr fo_apiRef2 rfl) (by decide) ?_   -- t45 := fieldAddr 130 t44 2
      refine WL.store (g := g4) (pre := [.int .i64 KK2, .bool LL2, .bool (decide (n / 4 = 1))] ++ digC d) (old := [.int .i64 0]) (post := [bc 0]) (new := [.int .i64 (k : Int)]) rfl (by simp [Addr.add, digC_length]) rfl rfl (by kernel_rfl) (by rw [opC_n] at hB4; exact hB4) (by first | rfl | (simp [digC_length, opC_length]; done) | (simp only [digC_length, opC_length]; omega)) (one1 rfl) (fun w12 hc12 hB12_ => ?_)   -- _ := store 3 t45 t43
      have hsz := hC.size
      have hB := hB.chg hc12 (fun e => by omega)
      have hB2 := hB2.chg hc12 (fun e => by omega)
      have hB4 : Blk w12 g4 132 (opC ⟨KK2, LL2, ⟨decide (n / 4 = 1), d, (k : Int)⟩, 0⟩) := by rw [opC_n]; exact hB12_
      have hC := hC.trans hc12 (fun i h1 h2 => by omega)
      have hb := hb0.chg hC hbg
      refine WL.nil ?_
      refine hK15 _ _ ?_; try clear hK15 K15
      refine CW.held (fun wq => Ext w12 wq) (by kernel_rfl) 8 rfl fun w13 hS => ?_
      refine RH.take 0 (fun _ _ _ _ h => h) (by kernel_rfl) hS rfl (by kernel_rfl) (by kernel_rfl) (fun wq hq => Y.move rfl) (by decide) ?_   -- t46 := move t0
      refine RH.take 1 (fun _ _ _ _ h => h) (by kernel_rfl) hS rfl (by kernel_rfl) (by kernel_rfl) (fun wq hq => Y.nilCheck rfl) (by decide) ?_   -- t47 := nilCheck t46
      refine RH.take 2 (fun _ _ _ _ h => h) (by kernel_rfl) hS rfl (by kernel_rfl) (by kernel_rfl) (fun wq hq => Y.fieldAddr fo_commitreader0 rfl) (by decide) ?_   -- t48 := fieldAddr 111 t47 0
      refine RH.take 3 (fun _ _ _ _ h => h) (by kernel_rfl) hS rfl (by kernel_rfl) (by kernel_rfl) (fun wq hq => Y.fieldAddr fo_apiOp2 rfl) (by decide) ?_   -- t49 := fieldAddr 132 t4 2
      refine RH.take 4 (fun _ _ _ _ h => h) (by kernel_rfl) hS rfl (by kernel_rfl) (by kernel_rfl) (fun wq hq => Y.fieldAddr fo_apiRef2 rfl) (by decide) ?_   -- t50 := fieldAddr 130 t49 2
      refine RH.take 5 (fun _ _ _ _ h => h) (by kernel_rfl) hS rfl (by kernel_rfl) (by kernel_rfl) (fun wq hq => Y.load1 Tryd.underlying3 rfl (hB4.ext hq).mem.op2.ref2 rfl) (by decide) ?_   -- t51 := load 3 t50
      refine RH.take 6 (fun _ _ _ _ h => h) (by kernel_rfl) hS rfl (by kernel_rfl) (by kernel_rfl) (fun wq hq => Y.eql rfl rfl) (by decide) ?_   -- t52 := binOp eql 3 t51 c(0:i64) 3
      refine RH.one 7 (by kernel_rfl) ?_
      refine RS.callOr rfl Tryd.func66 rfl rfl rfl (refuse_any _ _ _ _) (by simp) (fun ch w14 hP14 => ?_) ?_   -- call F66(t48, t52, c(7:i64)) : 109,4,23
      · skip
        obtain ⟨h1, rfl, hx⟩ := hP14
        have h4 := if_ne (by assumption)
        have h0 : (k : Int) = 0 := of_decide_eq_true h1
        exact (⟨7, by rw [gop, hg1]; simp only []; rw [if_neg (by omega), hgd]; simp only []; rw [gopN, if_pos h4, hk]; simp only []; rw [if_pos (by omega)], rfl, (hC.thenExt hS).thenExt hx⟩ : RdS (gop bs_ at_) g w _ _)
      rintro v53 w14 hR14
      obtain ⟨h1, rfl, hx14⟩ := hR14
      have hS := hS.thenExt hx14
      have h0 : ¬ (k : Int) = 0 := of_decide_eq_false h1
      refine ⟨hS, ?_⟩
      refine RH.done (by kernel_rfl) ?_
      have hx15 := hS; have hB := hB.ext hx15; have hb := hb.ext hx15; have hB2 := hB2.ext hx15; have hB4 := hB4.ext hx15
      have h4 := if_ne (by assumption)
      refine ⟨(k, a3), (by repeat (first | exact Fr.le.nil | refine Fr.le.cons rfl ?_)), ?_, hl10.2, hC.thenExt hx15, hB, ⟨zs2, hB2, hzl2⟩, ?_⟩
      · rw [gopN, if_pos h4, hk]; simp only []; rw [if_neg (by omega)]
      · subst hKK2; subst hLL2; exact hB4
    -- else
    refine CW.skip ?_
    have h4 : ¬ 4 ≤ n := fun h => by
      have h5 : ¬ (if 4 ≤ n then ((n / 4 * 4 : Nat) : Int) else 0) ≠ 0 := by assumption
      rw [if_pos h] at h5; omega
    have e4 : decide (n / 4 = 1) = false := decide_eq_false (by omega)
    refine ⟨(0, a2), (by repeat (first | exact Fr.le.nil | refine Fr.le.cons rfl ?_)), ?_, hl2_, hC, hB, ⟨zs2, hB2, hzl2⟩, ?_⟩
    · rw [gopN, if_neg h4]
    · subst hKK2; subst hLL2; rw [e4]; exact hB4
  rintro u w16 hj16
  obtain ⟨k, a3⟩ := u
  clear hB hB2 hB4 hC
  obtain ⟨hgk, hl3_, hC, hB, ⟨zs3, hB2, hzl3⟩, hB4⟩ := hj16
  dsimp only at hgk hl3_ hB hB4
  clear hb
  have hb := hb0.chg hC hbg
  clear hKK2 hLL2
  generalize hKK3 : (if n % 2 = 0 then 1 else 2 : Int) = KK3 at hB4
  generalize hLL3 : decide (n / 2 % 2 = 1) = LL3 at hB4
  generalize hOO3 : decide (n / 4 = 1) = OO3 at hB4
  refine CW.seq_to (X := UInt8 × Nat) (fun u => [(0, .pointer (some ⟨g, 0, none⟩)), (2, .pointer (some ⟨g2, 0, none⟩)), (3, .int .i64 (n : Int)), (4, .pointer (some ⟨g4, 0, none⟩))]) (fun u w0 => gopB bs_ n a3 = .ok u ∧ Chg (· = g) w w0 ∧ Blk w0 g t (bv :: .int .i64 (u.2 : Int) :: rest) ∧ (∃ zs, Blk w0 g2 132 zs ∧ zs.length = 37) ∧ Blk w0 g4 132 (opC ⟨(if n % 2 = 0 then 1 else 2), (decide (n / 2 % 2 = 1)), ⟨(decide (n / 4 = 1)), d, (k : Int)⟩, u.1⟩)) ?_ ?_
  · skip
    refine CW.seq fun K17 hK17 => ?_
    refine CW.region ?_   -- region 12
    refine WL.val (Y.fieldAddr fo_apiOp0 rfl) (by decide) ?_   -- t54 := fieldAddr 132 t4 0
    refine WL.val (Y.load1 Tryd.underlying3 rfl hB4.mem.op0 rfl) (by decide) ?_   -- t55 := load 3 t54
    refine WL.val (Y.eql rfl rfl) (by decide) ?_   -- t56 := binOp eql 3 t55 c(1:i64) 3
    refine WL.nil ?_
    refine hK17 _ _ ?_; try clear hK17 K17
    first | refine CW.condD rfl (fun ht18 => ?_) (fun ht18 => ?_) | refine CW.condND rfl (fun ht18 => ?_) (fun ht18 => ?_) | refine CW.condN rfl (fun ht18 => ?_) (fun ht18 => ?_) | refine CW.cond rfl (fun ht18 => ?_) (fun ht18 => ?_)
    · -- then
      refine CW.region ?_   -- region 13
      refine WL.val (Y.move rfl) (by decide) ?_   -- t57 := move t0
      refine WL.val (Y.nilCheck rfl) (by decide) ?_   -- t58 := nilCheck t57
      refine WL.val (Y.fieldAddr fo_commitreader0 rfl) (by decide) ?_   -- t59 := fieldAddr 111 t58 0
      refine WL.callOr Tryd.func74 rfl rfl rfl (pbytes_any g t bv bs_ a3 1 rest _ hB hb hbg hl3_ (by decide) (by decide)) (by simp) (fun ch w17 hP17 => ?_) ?_   -- t60 := call F74(t59, c(1:i64)) : 109,3
      · skip
        obtain ⟨h1, rfl, hc⟩ := hP17
        have hkk : KK3 = 1 := by assumption
        have hk1 : n % 2 = 0 := by split at hKK3 <;> omega
        exact (⟨8, by rw [gop, hg1]; simp only []; rw [if_neg (by omega), hgd]; simp only []; rw [hgk]; simp only []; rw [gopB, if_pos hk1, List.getElem?_eq_none (by omega)], rfl, hC.trans hc (fun _ _ h => h)⟩ : RdS (gop bs_ at_) g w _ _)
      rintro v60 w17 hR17
      obtain ⟨hle, a, c, rfl, hMa, hc17, hB⟩ := hR17
      have hkk : KK3 = 1 := by assumption
      have hk1 : n % 2 = 0 := by split at hKK3 <;> omega
      have hB2 := hB2.chg hc17 (fun e => by omega)
      have hl16 : g4 < w16.heap.size := hB4.lt
      have hB4 := hB4.chg hc17 (fun e => by omega)
      have hC := hC.trans hc17 (fun _ _ h => h)
      obtain ⟨b, hbb⟩ : ∃ b, bs_[a3]? = some b := ⟨_, List.getElem?_eq_getElem (by omega)⟩
      refine WL.val (Y.indexAddr Tryd.underlying33 rfl rfl sz0_uint8 (by omega) (by omega)) (by decide) ?_   -- t61 := indexAddr 33 t60 c(0:i64)
      refine WL.val (Y.load1 Tryd.underlying5 rfl (Mem.byteAt (j := 0) hMa (by rw [drop_at hbb]; rfl) rfl) rfl) (by decide) ?_   -- t62 := load 5 t61
      refine WL.val (Y.fieldAddr fo_apiOp3 rfl) (by decide) ?_   -- t63 := fieldAddr 132 t4 3
      refine WL.store (g := g4) (pre := [.int .i64 KK3, .bool LL3, .bool OO3] ++ digC d ++ [.int .i64 (k : Int)]) (old := [bc 0]) (post := []) (new := [bc b]) rfl (by simp [Addr.add, digC_length]) rfl rfl (by kernel_rfl) (by rw [opC_b] at hB4; exact hB4) (by first | rfl | (simp [digC_length, opC_length]; done) | (simp only [digC_length, opC_length]; omega)) (one1 rfl) (fun w18 hc18 hB18_ => ?_)   -- _ := store 5 t63 t62
      have hsz := hC.size
      refine WL.nil ?_
      refine ⟨(b, a3 + 1), (by repeat (first | exact Fr.le.nil | refine Fr.le.cons rfl ?_)), ?_, hC.trans hc18 (fun i h1 h2 => by omega), hB.chg hc18 (fun e => by omega), ⟨zs3, hB2.chg hc18 (fun e => by omega), hzl3⟩, ?_⟩
      · rw [gopB, if_pos hk1, hbb]
      · subst hKK3; subst hLL3; subst hOO3; rw [opC_b]; exact hB18_
    -- else
    refine CW.skip ?_
    have hkk : ¬ KK3 = 1 := by assumption
    have hk1 : ¬ n % 2 = 0 := by intro h; rw [if_pos h] at hKK3; omega
    refine ⟨(0, a3), (by repeat (first | exact Fr.le.nil | refine Fr.le.cons rfl ?_)), ?_, hC, hB, ⟨zs3, hB2, hzl3⟩, ?_⟩
    · rw [gopB, if_neg hk1]
    · subst hKK3; subst hLL3; subst hOO3; exact hB4
  rintro u w19 hj19
  obtain ⟨b, a4⟩ := u
  clear hB hB2 hB4 hC
  obtain ⟨hgb, hC, hB, ⟨zs4, hB2, hzl4⟩, hB4⟩ := hj19
  dsimp only at hgb hB hB4
  clear hKK3 hLL3 hOO3
  refine CW.seq fun K19 hK19 => ?_
  refine CW.region ?_   -- region 14
  refine WL.val (Y.load Tryd.underlying132 rfl hB4.mem (sz_apiOp _) rfl) (by decide) ?_   -- t64 := load 132 t4
  refine WL.store (pre := []) (old := zs4) (post := []) (new := opC _) rfl rfl rfl rfl (sz_apiOp _) (by simpa using hB2) (by first | rfl | (simp [digC_length, opC_length]; done) | (simp only [digC_length, opC_length]; omega)) (one_opC) (fun w20 hc20 hB20_ => ?_)   -- _ := store 132 t2 t64
  have hB2 : Blk w20 g2 132 (opC ⟨if n % 2 = 0 then 1 else 2, decide (n / 2 % 2 = 1), ⟨decide (n / 4 = 1), d, (k : Int)⟩, b⟩) := by simpa using hB20_
  have hsz := hC.size
  refine WL.nil ?_
  refine hK19 _ _ ?_; try clear hK19 K19
  refine CW.ret ?_
  refine ⟨_, _, rfl, hB2.mem, opC_length _, ?_⟩
  exact ⟨_, a4, by rw [gop, hg1]; simp only []; rw [if_neg (by omega), hgd]; simp only []; rw [hgk]; simp only []; rw [hgb], rfl, hC.trans hc20 (fun i h1 h2 => by omega), hB.chg hc20 (fun e => by omega)⟩
end Go.Proofs.YtoncdfpohdchgaaDoor
