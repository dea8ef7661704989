/- Parts of a proof: what its last text leans on. No condition. -/
import Derived.Test.YtfanmpbapabboaaDoorK05
set_option linter.unusedSimpArgs false
set_option linter.unusedVariables false
/- The reader of a commit: digests and operations, walked. No condition. -/
namespace Go.Proofs.YtfanmpbapabboaaDoor
open Go.RowKit Go.Fw Go.Pl
theorem gdig_ok {b : List UInt8} {k : Nat} {d : Dig} (h : k + 32 ≤ b.length) (hd : d.1 = (b.drop k).take 32) : gdig b k = .ok (d, k + 32) := by
 have : d = ⟨(b.drop k).take 32, by rw [List.length_take, List.length_drop]; omega⟩ := Subtype.ext hd
 rw [gdig, dif_pos h, this]
abbrev W2 (n c : Nat) : Int := IntKind.i64.wrap ((BitVec.ofInt IntKind.i64.bits (n : Int) &&& BitVec.ofInt IntKind.i64.bits (c : Int)).toNat : Int)
theorem and2 {n : Nat} (h : n < 12) : W2 n 2 = if n / 2 % 2 = 1 then 2 else 0 := (by decide +kernel : ∀ n, n < 12 → W2 n 2 = if n / 2 % 2 = 1 then 2 else 0) n h
theorem and1 {n : Nat} (h : n < 12) : W2 n 1 = if n % 2 = 1 then 1 else 0 := (by decide +kernel : ∀ n, n < 12 → W2 n 1 = if n % 2 = 1 then 1 else 0) n h
theorem and8 {n : Nat} (h : n < 12) : W2 n 8 = if 8 ≤ n then 8 else 0 := (by decide +kernel : ∀ n, n < 12 → W2 n 8 = if 8 ≤ n then 8 else 0) n h
theorem and12 {n : Nat} (h : n < 12) : W2 n 12 = if 4 ≤ n then ((n / 4 * 4 : Nat) : Int) else 0 := (by decide +kernel : ∀ n, n < 12 → W2 n 12 = if 4 ≤ n then ((n / 4 * 4 : Nat) : Int) else 0) n h
theorem and4 {n : Nat} (h : n < 12) : W2 n 4 = if n / 4 = 1 then 4 else 0 := (by decide +kernel : ∀ n, n < 12 → W2 n 4 = if n / 4 = 1 then 4 else 0) n h
theorem ne_if {p : Prop} [Decidable p] {c : Int} (hc : c ≠ 0) : decide ((if p then c else 0) ≠ 0) = decide p := by by_cases h : p <;> simp [h, hc]
theorem if_ne {p : Prop} [Decidable p] {c : Int} (h : (if p then c else 0) ≠ 0) : p := by
 by_cases hp : p
 ·
  exact hp
 ·
  rw [if_neg hp] at h; exact absurd rfl h
theorem if_eq {p : Prop} [Decidable p] {c : Int} (h : ¬ (if p then c else 0) ≠ 0) (hc : c ≠ 0) : ¬ p := fun hp => h (by rw [if_pos hp]; exact hc)
theorem build_opKL (b : Bool) (w : World) : (Instr.build 101 [(0, Value.int .i64 1), (1, Value.bool b)].toArray).run Tryd.prog w = .ok (.agg (opC ⟨1, b, RefD.zero, 0⟩).toArray) w := run_build w _ _ _ (by cases b <;> kernel_rfl)
theorem opC_o (x : OpD) : opC x = [.int .i64 x.kind, .bool x.left] ++ [.bool x.at_.own] ++ (digC x.at_.c ++ [.int .i64 x.at_.n] ++ [bc x.byte]) := by simp [opC, refC]
theorem opC_c (x : OpD) : opC x = [.int .i64 x.kind, .bool x.left, .bool x.at_.own] ++ digC x.at_.c ++ [.int .i64 x.at_.n, bc x.byte] := by simp [opC, refC]
theorem opC_n (x : OpD) : opC x = (([.int .i64 x.kind, .bool x.left, .bool x.at_.own] ++ digC x.at_.c) ++ [.int .i64 x.at_.n]) ++ [bc x.byte] := by simp [opC, refC]
theorem opC_b (x : OpD) : opC x = (([.int .i64 x.kind, .bool x.left, .bool x.at_.own] ++ digC x.at_.c ++ [.int .i64 x.at_.n]) ++ [bc x.byte]) ++ [] := by simp [opC, refC]
theorem pdigest_any (g : Nat) (t : TypeId) (bv : Value) (bs_ : List UInt8) (at_ : Nat) (rest : List Value) (w : World) (hB : Blk w g t (bv :: .int .i64 (at_ : Int) :: rest)) (hb : By w bv bs_) (hbg : bs_ ≠ [] → ∀ k, bv.ownBlock = some k → k ≠ g) (hat : at_ ≤ bs_.length) : Calls Tryd.prog 41 #[.pointer (some ⟨g, 0, none⟩)] w (RetOr (RdR (gdig bs_ at_) (fun d => digV d) g t bv rest w) (RdS (gdig bs_ at_) g w)) := by
 have hgl := hB.lt
 obtain ⟨i, hi, hz, hs⟩ := info_apiDigest
 refine calls_of_CWc_or 7 2 32 [(0, .pointer (some ⟨g, 0, none⟩))] Tryd.func41 rfl rfl rfl Tryd.underlying30 rfl kr_ (by simp) args1 ?_
 refine CW.sr fun K1 hK1 => ?_
 refine WL.alloc (hi) (hz) rfl de_ fun g2 w1 hx1 hg2 hB2 => ?_
 have hM2 := hB2.mem; have hB := hB.ext hx1; have hb := hb.ext hx1
 refine WL.nil (hK1 _ _ ?_); try clear hK1
 refine CW.sr fun K2 hK2 => ?_
 refine WL.m rfl ?_
 refine WL.callOr Tryd.func56 rfl rfl rfl (pbytes_any g t bv bs_ at_ 32 rest _ hB hb hbg hat de_ de_) (by simp) (fun ch w2 hP2 => ?_) ?_
 ·
  skip
  obtain ⟨h1, rfl, hc⟩ := hP2
  exact (⟨8, by rw [gdig, dif_neg om_], rfl, (Ext.chg hx1).trans hc (fun _ _ h => h)⟩ : RdS (gdig bs_ at_) g w _ _)
 rintro v4 w2 hR2
 obtain ⟨hle, a, c, rfl, hMa, hc2, hB⟩ := hR2
 have hB2 := hB2.chg hc2 (fun e => by omega)
 obtain ⟨d, hd⟩ : ∃ d : Dig, d.1 = (bs_.drop at_).take 32 := ⟨⟨_, by rw [List.length_take, List.length_drop]; omega⟩, rfl⟩
 rw [← hd] at hMa
 refine WL.v (Y.toArr Tryd.underlying30 rfl (Nat.le_refl _)) ?_
 refine WL.v (Y.load Tryd.underlying30 rfl (show Mem _ a (digC d) from hMa) (sz_apiDigest _) rfl) ?_
 refine WL.store (pre := []) (old := digC Dig.zero) (post := []) (new := digC d) rfl rfl rfl rfl (sz_apiDigest _) (by simpa using hB2) ln_ (one_digC) (fun w3 hc3 hB3_ => ?_)
 have hB2 : Blk w3 g2 30 (digC d) := by simpa using hB3_
 refine WL.nil (hK2 _ _ ?_); try clear hK2
 refine CW.ret ?_
 refine ⟨_, _, rfl, hB2.mem, digC_length d, ?_⟩
 exact ⟨d, at_ + 32, gdig_ok hle hd, rfl, ((Ext.chg hx1).trans hc2 (fun _ _ h => h)).trans hc3 (fun i h1 h2 => by omega), hB.chg hc3 (fun e => by omega)⟩
theorem pop_any (g : Nat) (t : TypeId) (bv : Value) (bs_ : List UInt8) (at_ : Nat) (rest : List Value) (w : World) (hB : Blk w g t (bv :: .int .i64 (at_ : Int) :: rest)) (hb : By w bv bs_) (hbg : bs_ ≠ [] → ∀ k, bv.ownBlock = some k → k ≠ g) (hat : at_ ≤ bs_.length) : Calls Tryd.prog 43 #[.pointer (some ⟨g, 0, none⟩)] w (RetOr (RdR (gop bs_ at_) (fun x => opV x) g t bv rest w) (RdS (gop bs_ at_) g w)) := by
 have hgl := hB.lt
 have hB0 := hB
 have hb0 := hb
 obtain ⟨i, hi, hz, hs⟩ := info_apiOp
 refine calls_of_CWc_or 65 2 37 [(0, .pointer (some ⟨g, 0, none⟩))] Tryd.func43 rfl rfl rfl Tryd.underlying101 rfl kr_ (by simp) args1 ?_
 refine CW.sr fun K1 hK1 => ?_
 refine WL.alloc (hi) (hz) rfl de_ fun g2 w1 hx1 hg2 hB2 => ?_
 have hM2 := hB2.mem; have hB := hB.ext hx1; have hb := hb.ext hx1
 refine WL.nil (hK1 _ _ ?_); try clear hK1
 refine CW.sr fun K2 hK2 => ?_
 refine WL.m rfl ?_
 refine WL.v (Y.nilCheck rfl) ?_
 refine WL.v (Y.fieldAddr fo_commitreader0 rfl) ?_
 refine WL.callOr Tryd.func39 rfl rfl rfl (pnum_any g t bv bs_ at_ rest _ hB hb hbg hat) (by simp) (fun ch w2 hP2 => ?_) ?_
 ·
  skip
  obtain ⟨e, h1, rfl, hc⟩ := hP2
  exact (⟨e, by rw [gop, h1], rfl, (Ext.chg hx1).trans hc (fun _ _ h => h)⟩ : RdS (gop bs_ at_) g w _ _)
 rintro v8 w2 hR2
 obtain ⟨n, a1, hg1, rfl, hc2, hB⟩ := hR2
 have hB2 := hB2.chg hc2 (fun e => by omega)
 have hb := hb.chg hc2 hbg
 have hC := (Ext.chg hx1).trans hc2 (fun _ _ h => h)
 have hl1 := gnum_len hg1 hat
 refine WL.a rfl ?_
 refine WL.nil (hK2 _ _ ?_); try clear hK2
 refine CW.sr fun K3 hK3 => ?_
 refine WL.m rfl ?_
 refine WL.v (Y.nilCheck rfl) ?_
 refine WL.v (Y.fieldAddr fo_commitreader0 rfl) ?_
 refine WL.m rfl ?_
 refine WL.v (Y.geq rfl rfl) ?_
 refine WL.callOr Tryd.func40 rfl rfl rfl (refuse_any _ _ _ _) (by simp) (fun ch w3 hP3 => ?_) ?_
 ·
  skip
  obtain ⟨h1, rfl, hx⟩ := hP3
  have := of_decide_eq_true h1
  exact (⟨7, by rw [gop, hg1]; simp only []; rw [if_pos om_], rfl, hC.thenExt hx⟩ : RdS (gop bs_ at_) g w _ _)
 rintro v14 w3 hR3
 obtain ⟨h1, rfl, hx3⟩ := hR3
 have hn := of_decide_eq_false h1
 have hn : n < 12 := by omega
 have hB := hB.ext hx3
 have hB2 := hB2.ext hx3
 have hb := hb.ext hx3
 have hC := hC.thenExt hx3
 have hs3 := hC.size
 have hl2 : g2 < w3.heap.size := hB2.lt
 refine WL.nil (hK3 _ _ ?_); try clear hK3
 refine CW.sr fun K4 hK4 => ?_
 refine WL.m rfl ?_
 refine WL.v (Y.and_k rfl rfl (and2 hn)) ?_
 refine WL.v (Y.neq rfl rfl) ?_
 refine WL.v (Y.build rfl (build_opKL _ _)) ?_
 refine as_apiOp rfl (by simp) de_ fun g4 w4 hx4 hg4 hB4 => ?_
 have hM4 := hB4.mem; have hB := hB.ext hx4; have hb := hb.ext hx4; have hB2 := hB2.ext hx4
 refine WL.nil (hK4 _ _ ?_); try clear hK4
 refine CW.seq_to (X := Unit) (fun _ => [(0, .pointer (some ⟨g, 0, none⟩)), (2, .pointer (some ⟨g2, 0, none⟩)), (3, .int .i64 (n : Int)), (4, .pointer (some ⟨g4, 0, none⟩))]) (fun _ w0 => Chg (· = g) w w0 ∧ Blk w0 g t (bv :: .int .i64 (a1 : Int) :: rest) ∧ (∃ zs, Blk w0 g2 101 zs ∧ zs.length = 37) ∧ Blk w0 g4 101 (opC ⟨(if n % 2 = 0 then 1 else 2), (decide (n / 2 % 2 = 1)), RefD.zero, 0⟩)) ?_ ?_
 ·
  skip
  refine CW.seq fun K6 hK6 => ?_
  rw [ne_if (c := 2) de_] at hB4 hM4
  refine CW.region ?_
  refine WL.m rfl ?_
  refine WL.v (Y.and_k rfl rfl (and1 hn)) ?_
  refine WL.v (Y.neq rfl rfl) ?_
  refine WL.nil (hK6 _ _ ?_); try clear hK6
  (first | refine cd_ rfl ?_ ?_ | refine ce_ rfl ?_ ?_ | refine cn_ rfl ?_ ?_ | refine cb_ rfl ?_ ?_) <;> intro ht7
  ·
   -- then
   refine CW.region ?_
   refine WL.v (Y.fieldAddr fo_apiOp0 rfl) ?_
   refine WL.store (pre := []) (old := [.int .i64 1]) (post := _) (new := [.int .i64 2]) rfl rfl rfl rfl kr_ hB4 ln_ (one1 rfl) (fun w5 hc5 hB5_ => ?_)
   skip
   refine WL.nil ?_
   refine ⟨(), Fr.ok, hC.thenExt hx4 |>.trans hc5 (fun i h1 h2 => by omega), hB.chg hc5 (fun e => by omega), ⟨_, hB2.chg hc5 (fun e => by omega), rfl⟩, ?_⟩
   have h1 := if_ne (by assumption)
   rw [if_neg om_]
   exact hB5_
  refine CW.skip ?_
  refine ⟨(), Fr.ok, hC.thenExt hx4, hB, ⟨_, hB2, rfl⟩, ?_⟩
  have h1 := if_eq (by assumption) de_
  rw [if_pos om_]
  exact hB4
 rintro u w6 hj6
 obtain ⟨hC, hB, ⟨zs, hB2, hzl⟩, hB4⟩ := hj6
 clear hb
 have hb := hb0.chg hC hbg
 generalize hKK : (if n % 2 = 0 then 1 else 2 : Int) = KK at hB4
 generalize hLL : decide (n / 2 % 2 = 1) = LL at hB4
 refine CW.seq_to (X := Dig × Nat) (fun u => [(0, .pointer (some ⟨g, 0, none⟩)), (2, .pointer (some ⟨g2, 0, none⟩)), (3, .int .i64 (n : Int)), (4, .pointer (some ⟨g4, 0, none⟩))]) (fun u w0 => gopD bs_ n a1 = .ok u ∧ u.2 ≤ bs_.length ∧ Chg (· = g) w w0 ∧ Blk w0 g t (bv :: .int .i64 (u.2 : Int) :: rest) ∧ (∃ zs, Blk w0 g2 101 zs ∧ zs.length = 37) ∧ Blk w0 g4 101 (opC ⟨(if n % 2 = 0 then 1 else 2), (decide (n / 2 % 2 = 1)), ⟨false, u.1, 0⟩, 0⟩)) ?_ ?_
 ·
  skip
  refine CW.sr fun K9 hK9 => ?_
  refine WL.m rfl ?_
  refine WL.v (Y.and_k rfl rfl (and8 hn)) ?_
  refine WL.v (Y.neq rfl rfl) ?_
  refine WL.nil (hK9 _ _ ?_); try clear hK9
  (first | refine cd_ rfl ?_ ?_ | refine ce_ rfl ?_ ?_ | refine cn_ rfl ?_ ?_ | refine cb_ rfl ?_ ?_) <;> intro ht10
  ·
   -- then
   refine CW.region ?_
   refine WL.m rfl ?_
   refine WL.v (Y.nilCheck rfl) ?_
   refine WL.v (Y.fieldAddr fo_commitreader0 rfl) ?_
   refine WL.callOr Tryd.func41 rfl rfl rfl (pdigest_any g t bv bs_ a1 rest _ hB hb hbg hl1.2) (by simp) (fun ch w7 hP7 => ?_) ?_
   ·
    skip
    obtain ⟨e, h1, rfl, hc⟩ := hP7
    have h8 := if_ne (by assumption)
    exact (⟨e, by rw [gop, hg1]; simp only []; rw [if_neg om_, gopD, if_pos h8, h1], rfl, hC.trans hc (fun _ _ h => h)⟩ : RdS (gop bs_ at_) g w _ _)
   rintro v29 w7 hR7
   obtain ⟨d, a2, hd1, rfl, hc7, hB⟩ := hR7
   have h8 := if_ne (by assumption)
   have hB2 := hB2.chg hc7 (fun e => by omega)
   have hl4 : g4 < w6.heap.size := hB4.lt
   have hB4 := hB4.chg hc7 (fun e => by omega)
   refine WL.v (Y.fieldAddr fo_apiOp2 rfl) ?_
   refine WL.v (Y.fieldAddr fo_apiRef1 rfl) ?_
   refine WL.store (g := g4) (pre := [.int .i64 KK, .bool LL, .bool false]) (old := digC Dig.zero) (post := [.int .i64 0, bc 0]) (new := digC d) rfl rfl rfl rfl (sz_apiDigest _) (by rw [opC_c] at hB4; exact hB4) ln_ (one_digC) (fun w8 hc8 hB8_ => ?_)
   have hl7 := hc7.size
   refine WL.nil ?_
   refine ⟨(d, a2), Fr.ok, ?_, ?_, (hC.trans hc7 (fun _ _ h => h)).trans hc8 (fun i h1 h2 => by omega), hB.chg hc8 (fun e => by omega), ⟨zs, hB2.chg hc8 (fun e => by omega), hzl⟩, ?_⟩
   ·
    rw [gopD, if_pos h8]; exact hd1
   ·
    rw [gdig] at hd1; split at hd1
    ·
     injection hd1 with hd1; injection hd1 with _ hd1; show a2 ≤ _; omega
    ·
     cases hd1
   ·
    rw [opC_c]; subst hKK; subst hLL; exact hB8_
  refine CW.skip ?_
  have h8 := if_eq (by assumption) de_
  refine ⟨(Dig.zero, a1), Fr.ok, ?_, hl1.2, hC, hB, ⟨zs, hB2, hzl⟩, ?_⟩
  ·
   rw [gopD, if_neg h8]
  ·
   subst hKK; subst hLL; exact hB4
 rintro u w9 hj9
 obtain ⟨d, a2⟩ := u
 clear hB hB2 hB4 hC
 obtain ⟨hgd, hl2_, hC, hB, ⟨zs2, hB2, hzl2⟩, hB4⟩ := hj9
 dsimp only at hgd hl2_ hB hB4
 clear hb
 have hb := hb0.chg hC hbg
 generalize hKK2 : (if n % 2 = 0 then 1 else 2 : Int) = KK2 at hB4
 generalize hLL2 : decide (n / 2 % 2 = 1) = LL2 at hB4
 refine CW.seq_to (X := Nat × Nat) (fun u => [(0, .pointer (some ⟨g, 0, none⟩)), (2, .pointer (some ⟨g2, 0, none⟩)), (3, .int .i64 (n : Int)), (4, .pointer (some ⟨g4, 0, none⟩))]) (fun u w0 => gopN bs_ n a2 = .ok u ∧ u.2 ≤ bs_.length ∧ Chg (· = g) w w0 ∧ Blk w0 g t (bv :: .int .i64 (u.2 : Int) :: rest) ∧ (∃ zs, Blk w0 g2 101 zs ∧ zs.length = 37) ∧ Blk w0 g4 101 (opC ⟨(if n % 2 = 0 then 1 else 2), (decide (n / 2 % 2 = 1)), ⟨(decide (n / 4 = 1)), d, (u.1 : Int)⟩, 0⟩)) ?_ ?_
 ·
  skip
  refine CW.sr fun K12 hK12 => ?_
  refine WL.m rfl ?_
  refine WL.v (Y.and_k rfl rfl (and12 hn)) ?_
  refine WL.v (Y.neq rfl rfl) ?_
  refine WL.nil (hK12 _ _ ?_); try clear hK12
  (first | refine cd_ rfl ?_ ?_ | refine ce_ rfl ?_ ?_ | refine cn_ rfl ?_ ?_ | refine cb_ rfl ?_ ?_) <;> intro ht13
  ·
   -- then
   refine CW.sr fun K14 hK14 => ?_
   refine WL.m rfl ?_
   refine WL.v (Y.and_k rfl rfl (and4 hn)) ?_
   refine WL.v (Y.neq rfl rfl) ?_
   refine WL.v (Y.fieldAddr fo_apiOp2 rfl) ?_
   refine WL.v (Y.fieldAddr fo_apiRef0 rfl) ?_
   refine WL.store (g := g4) (pre := [.int .i64 KK2, .bool LL2]) (old := [.bool false]) (post := digC d ++ [.int .i64 0] ++ [bc 0]) (new := [.bool (decide (n / 4 = 1))]) rfl rfl (by show some (Value.bool _) = _; rw [ne_if de_]) rfl kr_ (by rw [opC_o] at hB4; exact hB4) ln_ (one1 rfl) (fun w10 hc10 hB10_ => ?_)
   have hsz := hC.size
   have hB := hB.chg hc10 (fun e => by omega)
   have hB2 := hB2.chg hc10 (fun e => by omega)
   have hB4 : Blk w10 g4 101 (opC ⟨KK2, LL2, ⟨decide (n / 4 = 1), d, 0⟩, 0⟩) := by rw [opC_o]; exact hB10_
   have hC := hC.trans hc10 (fun i h1 h2 => by omega)
   have hb := hb0.chg hC hbg
   refine WL.nil (hK14 _ _ ?_); try clear hK14
   refine CW.sr fun K15 hK15 => ?_
   refine WL.m rfl ?_
   refine WL.v (Y.nilCheck rfl) ?_
   refine WL.v (Y.fieldAddr fo_commitreader0 rfl) ?_
   refine WL.callOr Tryd.func39 rfl rfl rfl (pnum_any g t bv bs_ a2 rest _ hB hb hbg hl2_) (by simp) (fun ch w11 hP11 => ?_) ?_
   ·
    skip
    obtain ⟨e, h1, rfl, hc⟩ := hP11
    have h4 := if_ne (by assumption)
    exact (⟨e, by rw [gop, hg1]; simp only []; rw [if_neg om_, hgd]; simp only []; rw [gopN, if_pos h4, h1], rfl, hC.trans hc (fun _ _ h => h)⟩ : RdS (gop bs_ at_) g w _ _)
   rintro v43 w11 hR11
   obtain ⟨k, a3, hk, rfl, hc11, hB⟩ := hR11
   have hB2 := hB2.chg hc11 (fun e => by omega)
   have hl9 : g4 < w10.heap.size := hB4.lt
   have hB4 := hB4.chg hc11 (fun e => by omega)
   have hC := hC.trans hc11 (fun _ _ h => h)
   have hl10 := gnum_len hk hl2_
   refine WL.v (Y.fieldAddr fo_apiOp2 rfl) ?_
   refine WL.v (Y.fieldAddr fo_apiRef2 rfl) ?_
   refine WL.store (g := g4) (pre := [.int .i64 KK2, .bool LL2, .bool (decide (n / 4 = 1))] ++ digC d) (old := [.int .i64 0]) (post := [bc 0]) (new := [.int .i64 (k : Int)]) rfl (by simp [Addr.add, digC_length]) rfl rfl kr_ (by rw [opC_n] at hB4; exact hB4) ln_ (one1 rfl) (fun w12 hc12 hB12_ => ?_)
   have hsz := hC.size
   have hB := hB.chg hc12 (fun e => by omega)
   have hB2 := hB2.chg hc12 (fun e => by omega)
   have hB4 : Blk w12 g4 101 (opC ⟨KK2, LL2, ⟨decide (n / 4 = 1), d, (k : Int)⟩, 0⟩) := by rw [opC_n]; exact hB12_
   have hC := hC.trans hc12 (fun i h1 h2 => by omega)
   have hb := hb0.chg hC hbg
   refine WL.nil (hK15 _ _ ?_); try clear hK15
   refine CW.held (fun wq => Ext w12 wq) kr_ 8 rfl fun w13 hS => ?_
   refine RH.tk 0 hS rfl (fun wq hq => Y.move rfl) ?_
   refine RH.tk 1 hS rfl (fun wq hq => Y.nilCheck rfl) ?_
   refine RH.tk 2 hS rfl (fun wq hq => Y.fieldAddr fo_commitreader0 rfl) ?_
   refine RH.tk 3 hS rfl (fun wq hq => Y.fieldAddr fo_apiOp2 rfl) ?_
   refine RH.tk 4 hS rfl (fun wq hq => Y.fieldAddr fo_apiRef2 rfl) ?_
   refine RH.tk 5 hS rfl (fun wq hq => Y.load1 Tryd.underlying3 rfl (hB4.ext hq).mem.op2.ref2 rfl) ?_
   refine RH.tk 6 hS rfl (fun wq hq => Y.eql rfl rfl) ?_
   refine RH.one 7 kr_ ?_
   refine RS.callOr rfl Tryd.func40 rfl rfl rfl (refuse_any _ _ _ _) (by simp) (fun ch w14 hP14 => ?_) ?_
   ·
    skip
    obtain ⟨h1, rfl, hx⟩ := hP14
    have h4 := if_ne (by assumption)
    have h0 : (k : Int) = 0 := of_decide_eq_true h1
    exact (⟨7, by rw [gop, hg1]; simp only []; rw [if_neg om_, hgd]; simp only []; rw [gopN, if_pos h4, hk]; simp only []; rw [if_pos om_], rfl, (hC.thenExt hS).thenExt hx⟩ : RdS (gop bs_ at_) g w _ _)
   rintro v53 w14 hR14
   obtain ⟨h1, rfl, hx14⟩ := hR14
   have hS := hS.thenExt hx14
   have h0 : ¬ (k : Int) = 0 := of_decide_eq_false h1
   refine ⟨hS, ?_⟩
   refine RH.done kr_ ?_
   have hx15 := hS; have hB := hB.ext hx15; have hb := hb.ext hx15; have hB2 := hB2.ext hx15; have hB4 := hB4.ext hx15
   have h4 := if_ne (by assumption)
   refine ⟨(k, a3), Fr.ok, ?_, hl10.2, hC.thenExt hx15, hB, ⟨zs2, hB2, hzl2⟩, ?_⟩
   ·
    rw [gopN, if_pos h4, hk]; simp only []; rw [if_neg om_]
   ·
    subst hKK2; subst hLL2; exact hB4
  refine CW.skip ?_
  have h4 : ¬ 4 ≤ n := fun h => by
   have h5 : ¬ (if 4 ≤ n then ((n / 4 * 4 : Nat) : Int) else 0) ≠ 0 := by assumption
   rw [if_pos h] at h5; omega
  have e4 : decide (n / 4 = 1) = false := decide_eq_false om_
  refine ⟨(0, a2), Fr.ok, ?_, hl2_, hC, hB, ⟨zs2, hB2, hzl2⟩, ?_⟩
  ·
   rw [gopN, if_neg h4]
  ·
   subst hKK2; subst hLL2; rw [e4]; exact hB4
 rintro u w16 hj16
 obtain ⟨k, a3⟩ := u
 clear hB hB2 hB4 hC
 obtain ⟨hgk, hl3_, hC, hB, ⟨zs3, hB2, hzl3⟩, hB4⟩ := hj16
 dsimp only at hgk hl3_ hB hB4
 clear hb
 have hb := hb0.chg hC hbg
 clear hKK2 hLL2
 generalize hKK3 : (if n % 2 = 0 then 1 else 2 : Int) = KK3 at hB4
 generalize hLL3 : decide (n / 2 % 2 = 1) = LL3 at hB4
 generalize hOO3 : decide (n / 4 = 1) = OO3 at hB4
 refine CW.seq_to (X := UInt8 × Nat) (fun u => [(0, .pointer (some ⟨g, 0, none⟩)), (2, .pointer (some ⟨g2, 0, none⟩)), (3, .int .i64 (n : Int)), (4, .pointer (some ⟨g4, 0, none⟩))]) (fun u w0 => gopB bs_ n a3 = .ok u ∧ Chg (· = g) w w0 ∧ Blk w0 g t (bv :: .int .i64 (u.2 : Int) :: rest) ∧ (∃ zs, Blk w0 g2 101 zs ∧ zs.length = 37) ∧ Blk w0 g4 101 (opC ⟨(if n % 2 = 0 then 1 else 2), (decide (n / 2 % 2 = 1)), ⟨(decide (n / 4 = 1)), d, (k : Int)⟩, u.1⟩)) ?_ ?_
 ·
  skip
  refine CW.sr fun K17 hK17 => ?_
  refine WL.v (Y.fieldAddr fo_apiOp0 rfl) ?_
  refine WL.v (Y.load1 Tryd.underlying3 rfl hB4.mem.op0 rfl) ?_
  refine WL.v (Y.eql rfl rfl) ?_
  refine WL.nil (hK17 _ _ ?_); try clear hK17
  (first | refine cd_ rfl ?_ ?_ | refine ce_ rfl ?_ ?_ | refine cn_ rfl ?_ ?_ | refine cb_ rfl ?_ ?_) <;> intro ht18
  ·
   -- then
   refine CW.region ?_
   refine WL.m rfl ?_
   refine WL.v (Y.nilCheck rfl) ?_
   refine WL.v (Y.fieldAddr fo_commitreader0 rfl) ?_
   refine WL.callOr Tryd.func56 rfl rfl rfl (pbytes_any g t bv bs_ a3 1 rest _ hB hb hbg hl3_ de_ de_) (by simp) (fun ch w17 hP17 => ?_) ?_
   ·
    skip
    obtain ⟨h1, rfl, hc⟩ := hP17
    have hkk : KK3 = 1 := by assumption
    have hk1 : n % 2 = 0 := by split at hKK3 <;> omega
    exact (⟨8, by rw [gop, hg1]; simp only []; rw [if_neg om_, hgd]; simp only []; rw [hgk]; simp only []; rw [gopB, if_pos hk1, List.getElem?_eq_none om_], rfl, hC.trans hc (fun _ _ h => h)⟩ : RdS (gop bs_ at_) g w _ _)
   rintro v60 w17 hR17
   obtain ⟨hle, a, c, rfl, hMa, hc17, hB⟩ := hR17
   have hkk : KK3 = 1 := by assumption
   have hk1 : n % 2 = 0 := by split at hKK3 <;> omega
   have hB2 := hB2.chg hc17 (fun e => by omega)
   have hl16 : g4 < w16.heap.size := hB4.lt
   have hB4 := hB4.chg hc17 (fun e => by omega)
   have hC := hC.trans hc17 (fun _ _ h => h)
   obtain ⟨b, hbb⟩ : ∃ b, bs_[a3]? = some b := ⟨_, List.getElem?_eq_getElem om_⟩
   refine WL.v (Y.indexAddr Tryd.underlying32 rfl rfl sz0_uint8 om_ om_) ?_
   refine WL.v (Y.load1 Tryd.underlying5 rfl (Mem.byteAt (j := 0) hMa (by rw [drop_at hbb]; rfl) rfl) rfl) ?_
   refine WL.v (Y.fieldAddr fo_apiOp3 rfl) ?_
   refine WL.store (g := g4) (pre := [.int .i64 KK3, .bool LL3, .bool OO3] ++ digC d ++ [.int .i64 (k : Int)]) (old := [bc 0]) (post := []) (new := [bc b]) rfl (by simp [Addr.add, digC_length]) rfl rfl kr_ (by rw [opC_b] at hB4; exact hB4) ln_ (one1 rfl) (fun w18 hc18 hB18_ => ?_)
   have hsz := hC.size
   refine WL.nil ?_
   refine ⟨(b, a3 + 1), Fr.ok, ?_, hC.trans hc18 (fun i h1 h2 => by omega), hB.chg hc18 (fun e => by omega), ⟨zs3, hB2.chg hc18 (fun e => by omega), hzl3⟩, ?_⟩
   ·
    rw [gopB, if_pos hk1, hbb]
   ·
    subst hKK3; subst hLL3; subst hOO3; rw [opC_b]; exact hB18_
  refine CW.skip ?_
  have hkk : ¬ KK3 = 1 := by assumption
  have hk1 : ¬ n % 2 = 0 := by intro h; rw [if_pos h] at hKK3; omega
  refine ⟨(0, a3), Fr.ok, ?_, hC, hB, ⟨zs3, hB2, hzl3⟩, ?_⟩
  ·
   rw [gopB, if_neg hk1]
  ·
   subst hKK3; subst hLL3; subst hOO3; exact hB4
 rintro u w19 hj19
 obtain ⟨b, a4⟩ := u
 clear hB hB2 hB4 hC
 obtain ⟨hgb, hC, hB, ⟨zs4, hB2, hzl4⟩, hB4⟩ := hj19
 dsimp only at hgb hB hB4
 clear hKK3 hLL3 hOO3
 refine CW.sr fun K19 hK19 => ?_
 refine WL.v (Y.load Tryd.underlying101 rfl hB4.mem (sz_apiOp _) rfl) ?_
 refine WL.store (pre := []) (old := zs4) (post := []) (new := opC _) rfl rfl rfl rfl (sz_apiOp _) (by simpa using hB2) ln_ (one_opC) (fun w20 hc20 hB20_ => ?_)
 have hB2 : Blk w20 g2 101 (opC ⟨if n % 2 = 0 then 1 else 2, decide (n / 2 % 2 = 1), ⟨decide (n / 4 = 1), d, (k : Int)⟩, b⟩) := by simpa using hB20_
 have hsz := hC.size
 refine WL.nil (hK19 _ _ ?_); try clear hK19
 refine CW.ret ?_
 refine ⟨_, _, rfl, hB2.mem, opC_length _, ?_⟩
 exact ⟨_, a4, by rw [gop, hg1]; simp only []; rw [if_neg om_, hgd]; simp only []; rw [hgk]; simp only []; rw [hgb], rfl, hC.trans hc20 (fun i h1 h2 => by omega), hB.chg hc20 (fun e => by omega)⟩
end Go.Proofs.YtfanmpbapabboaaDoor
/- What a reader of a commit holds while it reads; slices of digests and operations of our own. No condition. -/
namespace Go.Pl
def gcat {α : Type} (ps : List α) : Except Int (List α × Nat) → Except Int (List α × Nat)
 | .error e => .error e
 | .ok (xs, a) => .ok (ps ++ xs, a)
theorem gcat_nil {α : Type} (o : Except Int (List α × Nat)) : gcat [] o = o := by
 cases o with
 | error e => rfl
 | ok p => rfl
theorem gcat_err {α : Type} {f : List UInt8 → Nat → Except Int (α × Nat)} {b : List UInt8} {k p : Nat} {ps : List α} {e : Int} (h : f b p = .error e) : gcat ps (gmany f b (k + 1) p) = .error e := by
 rw [gmany, h]; rfl
theorem gcat_ok {α : Type} {f : List UInt8 → Nat → Except Int (α × Nat)} {b : List UInt8} {k p a : Nat} {ps : List α} {x : α} (h : f b p = .ok (x, a)) : gcat ps (gmany f b (k + 1) p) = gcat (ps ++ [x]) (gmany f b k a) := by
 rw [gmany, h]
 simp only []
 cases gmany f b k a with
 | error e => rfl
 | ok q => simp [gcat]
theorem gcat_end {α : Type} {f : List UInt8 → Nat → Except Int (α × Nat)} {b : List UInt8} {p : Nat} {ps : List α} : gcat ps (gmany f b 0 p) = .ok (ps, p) := by simp [gmany, gcat]
end Go.Pl
namespace Go.Proofs.YtfanmpbapabboaaDoor
open Go.RowKit Go.Fw Go.Pl
structure Rdr (w : World) (g : Nat) (bv : Value) (w0 : World) (p : Nat) (pv : Value) (ps : List Dig) (au no : ByteArray) (ov : Value) (os : List OpD) : Prop where
 lt : g < w.heap.size
 chg : Chg (· = g) w w0
 blk : Blk w0 g 71 (rdC bv (p : Int) pv au no ov)
 ownP : Own w0 30 32 pv (flatD ps)
 newP : ∀ k, pv.ownBlock = some k → w.heap.size ≤ k
 ownO : Own w0 101 37 ov (flatO os)
 newO : ∀ k, ov.ownBlock = some k → w.heap.size ≤ k
 apart : ∀ k, ov.ownBlock = some k → pv.ownBlock ≠ some k
section
variable {w w0 w1 w2 : World} {g p q : Nat} {bv pv ov pv' ov' : Value} {ps : List Dig} {os : List OpD} {au no : ByteArray} {d : Dig} {x : OpD}
theorem Rdr.ext (h : Rdr w g bv w0 p pv ps au no ov os) (hx : Ext w0 w1) : Rdr w g bv w1 p pv ps au no ov os :=
 ⟨h.lt, h.chg.thenExt hx, h.blk.ext hx, h.ownP.ext hx, h.newP, h.ownO.ext hx, h.newO, h.apart⟩
theorem Rdr.turn (h : Rdr w g bv w0 p pv ps au no ov os) (hc : Chg (· = g) w0 w1) {au' no' : ByteArray} (hB : Blk w1 g 71 (rdC bv (q : Int) pv au' no' ov)) : Rdr w g bv w1 q pv ps au' no' ov os :=
 ⟨h.lt, h.chg.trans hc (fun _ _ e => e), hB, h.ownP.chg hc (fun k hk e => by have := h.newP k hk; have := h.lt; subst e; omega), h.newP,
  h.ownO.chg hc (fun k hk e => by have := h.newO k hk; have := h.lt; subst e; omega), h.newO, h.apart⟩
theorem Rdr.pushP (h : Rdr w g bv w0 p pv ps au no (.slice none 0 0) []) (hA : Own w1 30 32 pv' (flatD ps ++ digC d) ∧ Chg (fun k => pv.ownBlock = some k) w0 w1 ∧ (pv'.ownBlock = pv.ownBlock ∨ ∀ k, pv'.ownBlock = some k → w0.heap.size ≤ k))
  (hc : Chg (· = g) w1 w2) (hB : Blk w2 g 71 (rdC bv (p : Int) pv' au no (.slice none 0 0))) : Rdr w g bv w2 p pv' (ps ++ [d]) au no (.slice none 0 0) [] := by
 obtain ⟨h1, h2, h3⟩ := hA
 have hs := h.chg.size
 have hn : ∀ k, pv'.ownBlock = some k → w.heap.size ≤ k := by
  rcases h3 with h3 | h3
  ·
   intro k hk; rw [h3] at hk; exact h.newP k hk
  ·
   intro k hk; have := h3 k hk; omega
 have hl := h.lt
 refine ⟨h.lt, ?_, hB, ?_, hn, .inl ⟨rfl, rfl⟩, h.newO, fun k hk => by simp [Value.ownBlock] at hk⟩
 ·
  exact (h.chg.trans h2 (fun i hi e => by have := h.newP i e; omega)).trans hc (fun _ _ e => e)
 ·
  have e : flatD (ps ++ [d]) = flatD ps ++ digC d := by simp [flatD]
  rw [e]
  exact h1.chg hc (fun k hk e => by have := hn k hk; omega)
theorem Rdr.pushO (h : Rdr w g bv w0 p pv ps au no ov os) (hA : Own w1 101 37 ov' (flatO os ++ opC x) ∧ Chg (fun k => ov.ownBlock = some k) w0 w1 ∧ (ov'.ownBlock = ov.ownBlock ∨ ∀ k, ov'.ownBlock = some k → w0.heap.size ≤ k))
  (hc : Chg (· = g) w1 w2) (hB : Blk w2 g 71 (rdC bv (p : Int) pv au no ov')) : Rdr w g bv w2 p pv ps au no ov' (os ++ [x]) := by
 obtain ⟨h1, h2, h3⟩ := hA
 have hs := h.chg.size
 have hn : ∀ k, ov'.ownBlock = some k → w.heap.size ≤ k := by
  rcases h3 with h3 | h3
  ·
   intro k hk; rw [h3] at hk; exact h.newO k hk
  ·
   intro k hk; have := h3 k hk; omega
 have hl := h.lt
 have hlt := h.ownP.lt
 refine ⟨h.lt, ?_, hB, ?_, h.newP, ?_, hn, ?_⟩
 ·
  exact (h.chg.trans h2 (fun i hi e => by have := h.newO i e; omega)).trans hc (fun _ _ e => e)
 ·
  exact (h.ownP.chg h2 (fun k hk e => h.apart k e hk)).chg hc (fun k hk e => by have := h.newP k hk; omega)
 ·
  have e : flatO (os ++ [x]) = flatO os ++ opC x := by simp [flatO]
  rw [e]
  exact h1.chg hc (fun k hk e => by have := hn k hk; omega)
 ·
  rcases h3 with h3 | h3
  ·
   intro k hk; rw [h3] at hk; exact h.apart k hk
  ·
   intro k hk e; have := h3 k hk; have := hlt k e; omega
theorem Rdr.stillP (h : Rdr w g bv w0 p pv ps au no ov os) (hc : Chg (fun k => pv.ownBlock = some k) w0 w1) : Blk w1 g 71 (rdC bv (p : Int) pv au no ov) := h.blk.chg hc (fun e => by have := h.newP _ e; have := h.lt; omega)
theorem Rdr.stillO (h : Rdr w g bv w0 p pv ps au no ov os) (hc : Chg (fun k => ov.ownBlock = some k) w0 w1) : Blk w1 g 71 (rdC bv (p : Int) pv au no ov) := h.blk.chg hc (fun e => by have := h.newO _ e; have := h.lt; omega)
theorem Rdr.com (h : Rdr w g bv w0 p pv ps au no ov os) (ha : au.size ≤ maxLen) (hn : no.size ≤ maxLen) : Com w0 (.agg (comC pv au no ov).toArray) ⟨ps, au, no, os⟩ :=
 ⟨pv, ov, rfl, Own.sl h.ownP (fun x => digC_length x) de_, Own.sl h.ownO (fun x => opC_length x) de_, ha, hn⟩
end
end Go.Proofs.YtfanmpbapabboaaDoor
namespace Go.Pl
open Go.Fw
theorem gdig_len {b : List UInt8} {p q : Nat} {d : Dig} (h : gdig b p = .ok (d, q)) : q ≤ b.length := by
 unfold gdig at h
 split at h
 ·
  injection h with h; injection h with _ h; omega
 ·
  cases h
theorem gop_len {b : List UInt8} {p q : Nat} {x : OpD} (h : gop b p = .ok (x, q)) (hp : p ≤ b.length) : q ≤ b.length := by
 unfold gop at h
 split at h
 ·
  cases h
 rename_i n a1 h1
 have l1 := gnum_len h1 hp
 split at h
 ·
  cases h
 split at h
 ·
  cases h
 rename_i d a2 h2
 have l2 : a2 ≤ b.length := by
  unfold gopD at h2
  split at h2
  ·
   exact gdig_len h2
  ·
   injection h2 with h2; injection h2 with _ h2; omega
 split at h
 ·
  cases h
 rename_i k a3 h3
 have l3 : a3 ≤ b.length := by
  unfold gopN at h3
  split at h3
  ·
   split at h3
   ·
    cases h3
   ·
    rename_i k' a' h4
    have := gnum_len h4 l2
    split at h3
    ·
     cases h3
    ·
     injection h3 with h3; injection h3 with _ h3; omega
  ·
   injection h3 with h3; injection h3 with _ h3; omega
 split at h
 ·
  cases h
 rename_i y a4 h4
 injection h with h; injection h with _ h
 unfold gopB at h4
 split at h4
 ·
  split at h4
  ·
   rename_i z hz
   have := (List.getElem?_eq_some_iff.1 hz).1
   injection h4 with h4; injection h4 with _ h4; omega
  ·
   cases h4
 ·
  injection h4 with h4; injection h4 with _ h4; omega
section
variable {b au no : List UInt8} {n m a1 a2 a3 a4 a5 a6 : Nat} {ps : List Dig} {os : List OpD} {e : Int}
theorem dec_e1 (h : gnum b 0 = .error e) : decI b = .error e := by rw [decI, gcom, h]
variable (h1 : gnum b 0 = .ok (n, a1))
include h1
theorem dec_e2 (h : 8 < n) : decI b = .error 4 := by rw [decI, gcom, h1]; simp only []; rw [if_pos h]
variable (h2 : ¬ 8 < n)
include h2
theorem dec_e3 (h : gmany gdig b n a1 = .error e) : decI b = .error e := by rw [decI, gcom, h1]; simp only []; rw [if_neg h2, h]
variable (h3 : gmany gdig b n a1 = .ok (ps, a2))
include h3
theorem dec_e4 (h : gtext b a2 = .error e) : decI b = .error e := by rw [decI, gcom, h1]; simp only []; rw [if_neg h2, h3]; simp only []; rw [h]
variable (h4 : gtext b a2 = .ok (au, a3))
include h4
theorem dec_e5 (h : gtext b a3 = .error e) : decI b = .error e := by rw [decI, gcom, h1]; simp only []; rw [if_neg h2, h3]; simp only []; rw [h4]; simp only []; rw [h]
variable (h5 : gtext b a3 = .ok (no, a4))
include h5
theorem dec_e6 (h : gnum b a4 = .error e) : decI b = .error e := by rw [decI, gcom, h1]; simp only []; rw [if_neg h2, h3]; simp only []; rw [h4]; simp only []; rw [h5]; simp only []; rw [h]
variable (h6 : gnum b a4 = .ok (m, a5))
include h6
theorem dec_e7 (h : 2000 < m) : decI b = .error 4 := by rw [decI, gcom, h1]; simp only []; rw [if_neg h2, h3]; simp only []; rw [h4]; simp only []; rw [h5]; simp only []; rw [h6]; simp only []; rw [if_pos h]
variable (h7 : ¬ 2000 < m)
include h7
theorem dec_e8 (h : gmany gop b m a5 = .error e) : decI b = .error e := by rw [decI, gcom, h1]; simp only []; rw [if_neg h2, h3]; simp only []; rw [h4]; simp only []; rw [h5]; simp only []; rw [h6]; simp only []; rw [if_neg h7, h]
variable (h8 : gmany gop b m a5 = .ok (os, a6))
include h8
theorem gcom_ok : gcom b = .ok (⟨ps, bs au, bs no, os⟩, a6) := by rw [gcom, h1]; simp only []; rw [if_neg h2, h3]; simp only []; rw [h4]; simp only []; rw [h5]; simp only []; rw [h6]; simp only []; rw [if_neg h7, h8]
theorem dec_e9 (h : a6 ≠ b.length) : decI b = .error 7 := by rw [decI, gcom_ok h1 h2 h3 h4 h5 h6 h7 h8]; simp only []; rw [if_pos h]
theorem dec_e10 (h9 : a6 = b.length) (h : mayI ⟨ps, bs au, bs no, os⟩ ≠ 0) : decI b = .error (mayI ⟨ps, bs au, bs no, os⟩) := by rw [decI, gcom_ok h1 h2 h3 h4 h5 h6 h7 h8]; simp only []; rw [if_neg (by simpa using h9), if_pos h]
theorem dec_ok (h9 : a6 = b.length) (h : mayI ⟨ps, bs au, bs no, os⟩ = 0) : decI b = .ok ⟨ps, bs au, bs no, os⟩ := by rw [decI, gcom_ok h1 h2 h3 h4 h5 h6 h7 h8]; simp only []; rw [if_neg (by simpa using h9), if_neg (by simpa using h)]
end
end Go.Pl
/- The reader of a commit: all of it, walked. No condition. -/
namespace Go.Proofs.YtfanmpbapabboaaDoor
open Go.RowKit Go.Fw Go.Pl
abbrev CmS (b : List UInt8) (g : Nat) (w : World) (ch : List PanicEntry) (w' : World) : Prop := ∃ e, decI b = .error e ∧ ch = pan e ∧ Chg (· = g) w w'
theorem pcommit_any (g : Nat) (bv : Value) (b : List UInt8) (w : World) (hB : Blk w g 71 (rdC bv ((0 : Nat) : Int) (.slice none 0 0) (bs []) (bs []) (.slice none 0 0))) (hb : By w bv b) (hbg : b ≠ [] → ∀ k, bv.ownBlock = some k → k ≠ g) : Calls Tryd.prog 25 #[.pointer (some ⟨g, 0, none⟩)] w (RetOr (fun v w' => v = .tuple #[] ∧ ∃ c pv ov, decI b = .ok c ∧ Rdr w g bv w' b.length pv c.parents c.author c.note ov c.ops) (CmS b g w)) := by
 have hb0 := hb
 obtain ⟨A, mb, cb, rfl, hlb, hmcb, hcmb, _, _⟩ := hb0
 have hb0 := hb
 have hs : Rdr w g (.slice A mb cb) w 0 (.slice none 0 0) [] (bs []) (bs []) (.slice none 0 0) [] := ⟨hB.lt, Chg.refl, hB, .inl ⟨rfl, rfl⟩, fun k h => by simp [Value.ownBlock] at h, .inl ⟨rfl, rfl⟩, fun k h => by simp [Value.ownBlock] at h, fun k h => by simp [Value.ownBlock] at h⟩
 unfold maxLen at hcmb
 refine calls_of_CW_or 104 [] [(0, .pointer (some ⟨g, 0, none⟩))] Tryd.func25 rfl rfl rfl (by simp) args1 ?_
 refine CW.sr fun K1 hK1 => ?_
 refine WL.m rfl ?_
 refine WL.v (Y.nilCheck rfl) ?_
 refine WL.v (Y.fieldAddr fo_commitreader0 rfl) ?_
 refine WL.callOr Tryd.func39 rfl rfl rfl (pnum_any g _ (.slice A mb cb) b 0 _ _ hs.blk hb hbg (Nat.zero_le _)) (by simp) (fun ch w1 hP1 => ?_) ?_
 ·
  skip
  obtain ⟨e, h1, rfl, hc⟩ := hP1
  exact (⟨e, dec_e1 h1, rfl, hc⟩ : CmS b g w _ _)
 rintro v7 w1 hR1
 obtain ⟨n, a1, hg1, rfl, hc1, hB1⟩ := hR1
 have hs := hs.turn hc1 hB1
 have hl1 := gnum_len hg1 (Nat.zero_le _)
 refine WL.a rfl ?_
 refine WL.nil (hK1 _ _ ?_); try clear hK1
 refine CW.sr fun K2 hK2 => ?_
 refine WL.m rfl ?_
 refine WL.v (Y.nilCheck rfl) ?_
 refine WL.v (Y.fieldAddr fo_commitreader0 rfl) ?_
 refine WL.m rfl ?_
 refine WL.v (Y.gtr rfl rfl) ?_
 refine WL.callOr Tryd.func40 rfl rfl rfl (refuse_any _ _ _ _) (by simp) (fun ch w2 hP2 => ?_) ?_
 ·
  skip
  obtain ⟨h1, rfl, hx⟩ := hP2
  have := of_decide_eq_true h1
  exact (⟨4, dec_e2 hg1 om_, rfl, (hs.ext hx).chg⟩ : CmS b g w _ _)
 rintro v13 w2 hR2
 obtain ⟨h1, rfl, hx2⟩ := hR2
 have hn := of_decide_eq_false h1
 have hn : ¬ 8 < n := by omega
 have hs := hs.ext hx2
 refine WL.nil (hK2 _ _ ?_); try clear hK2
 refine CW.seq fun K3 hK3 => ?_
 refine CW.sr fun K4 hK4 => ?_
 refine WL.m rfl ?_
 refine WL.m rfl ?_
 refine WL.nil (hK4 _ _ ?_); try clear hK4
 refine CW.block ?_
 refine CW.loop (X := Nat × List Dig × Value × Nat) (fun x => [(0, .pointer (some ⟨g, 0, none⟩)), (14, .int .i64 (n : Int)), (15, .int .i64 (x.1 : Int))]) (fun x w0 => x.1 ≤ n ∧ x.2.1.length = x.1 ∧ x.2.2.2 ≤ b.length ∧ gmany gdig b n a1 = gcat x.2.1 (gmany gdig b (n - x.1) x.2.2.2) ∧ Rdr w g (.slice A mb cb) w0 x.2.2.2 x.2.2.1 x.2.1 (bs []) (bs []) (.slice none 0 0) []) (fun x => n - x.1) (0, [], .slice none 0 0, a1) Fr.ok ⟨Nat.zero_le _, rfl, hl1.2, (gcat_nil _).symm, hs⟩ ?_
 intro x w3 hl3
 clear hs
 obtain ⟨i, ps, pv, p⟩ := x
 dsimp only at hl3 ⊢
 obtain ⟨hi, hpl, hp, hgm, hs⟩ := hl3
 have hb := hb0.chg hs.chg hbg
 refine CW.sr fun K5 hK5 => ?_
 refine WL.v (Y.lss rfl rfl) ?_
 refine WL.nil (hK5 _ _ ?_); try clear hK5
 refine CW.seq fun K6 hK6 => ?_
 (first | refine cd_ rfl ?_ ?_ | refine ce_ rfl ?_ ?_ | refine cn_ rfl ?_ ?_ | refine cb_ rfl ?_ ?_) <;> intro ht7
 ·
  -- then
  refine CW.skip ?_
  refine hK6 _ _ ?_; try clear hK6
  refine CW.seq fun K8 hK8 => ?_
  refine CW.block ?_
  refine CW.held (fun _ => True) kr_ 16 rfl fun w4 hx4 => ?_
  have hs := hs.ext hx4
  have hb := hb.ext hx4
  have hB := hs.blk
  obtain ⟨k, hk⟩ : ∃ k, n - i = k + 1 := ⟨n - i - 1, by omega⟩
  rw [hk] at hgm
  refine RH.tk 0 trivial rfl (fun wq hq => Y.move rfl) ?_
  refine RH.tk 1 trivial rfl (fun wq hq => Y.move rfl) ?_
  refine RH.tk 2 trivial rfl (fun wq hq => Y.nilCheck rfl) ?_
  refine RH.tk 3 trivial rfl (fun wq hq => Y.fieldAddr fo_commitreader1 rfl) ?_
  refine RH.tk 4 trivial rfl (fun wq hq => Y.fieldAddr fo_apiCommit0 rfl) ?_
  refine RH.tk 6 trivial rfl (fun wq hq => Y.move rfl) ?_
  refine RH.tk 7 trivial rfl (fun wq hq => Y.nilCheck rfl) ?_
  refine RH.tk 8 trivial rfl (fun wq hq => Y.fieldAddr fo_commitreader0 rfl) ?_
  refine RH.two 5 9 kr_ ?_ ?_
  ·
   skip
   refine RS.val rfl (Y.load1 Tryd.underlying23 rfl hB.mem.reader1.com0 rfl) de_ ⟨trivial, ?_⟩
   refine RH.one 9 kr_ ?_
   refine RS.callOr rfl Tryd.func41 rfl rfl rfl (pdigest_any g _ (.slice A mb cb) b p _ _ hs.blk hb hbg hp) (by simp) (fun ch w5 hP5 => ?_) ?_
   ·
    skip
    obtain ⟨e, h1, rfl, hc⟩ := hP5
    exact (⟨e, dec_e3 hg1 hn (by rw [hgm]; exact gcat_err h1), rfl, hs.chg.trans hc (fun _ _ h => h)⟩ : CmS b g w _ _)
   rintro v26 w5 hR5
   obtain ⟨d, q, hd, rfl, hc5, hB5⟩ := hR5
   have hs := hs.turn hc5 hB5
   have hB := hs.blk
   have hql := gdig_len hd
   refine ⟨trivial, ?_⟩
   refine RH.one 10 kr_ ?_
   refine RS.st rfl (St.buildSlice rfl (bs1_dig d)) de_ fun v27 w6 hR6 => ?_
   obtain ⟨k2, rfl, hg6, hB6, hx6⟩ := hR6
   have hs := hs.ext hx6
   have hB := hs.blk
   refine ⟨trivial, ?_⟩
   refine RH.one 11 kr_ ?_
   refine RS.st rfl (St.append Tryd.underlying23 Tryd.underlying23 ai_dig rfl rfl hs.ownP (Src.one hB6 (digC_length _)) one_digC (by rw [flat_length digC_length]; omega)) de_ fun v28 w7 hR7 => ?_
   have hB7 := hs.stillP hR7.2.1
   obtain ⟨A7, m7, c7, rfl⟩ := hR7.1.lens
   refine ⟨trivial, ?_⟩
   refine RH.tk 12 trivial rfl (fun wq hq => Y.nilCheck rfl) ?_
   refine RH.tk 13 trivial rfl (fun wq hq => Y.fieldAddr fo_commitreader1 rfl) ?_
   refine RH.tk 14 trivial rfl (fun wq hq => Y.fieldAddr fo_apiCommit0 rfl) ?_
   refine RH.one 15 kr_ ?_
   refine RS.store rfl (g := g) (pre := [(.slice A mb cb), .int .i64 (q : Int)]) (old := [pv]) (post := [.string (bs []), .string (bs []), .slice none 0 0]) (new := [.slice A7 m7 c7]) rfl rfl rfl rfl kr_ hB7 rfl (one1 rfl) (fun w8 hc8 hB8_ => ?_)
   have hs := hs.pushP (d := d) hR7 hc8 hB8_
   refine ⟨trivial, ?_⟩
   refine RH.done kr_ ?_
   refine hK8 _ _ ?_; try clear hK8
   refine CW.region ?_
   refine WL.v (Y.add rfl rfl o2_) ?_
   refine WL.m rfl ?_
   refine WL.nil ?_
   refine ⟨(i + 1, ps ++ [d], _, q), by show n - (i + 1) < n - i; omega, Fr.ok, by show i + 1 ≤ n; omega, by simp [hpl], hql, ?_, hs⟩
   show gmany gdig b n a1 = gcat (ps ++ [d]) (gmany gdig b (n - (i + 1)) q)
   rw [hgm, gcat_ok hd, show n - (i + 1) = k by omega]
  ·
   skip
   refine RS.callOr rfl Tryd.func41 rfl rfl rfl (pdigest_any g _ (.slice A mb cb) b p _ _ hs.blk hb hbg hp) (by simp) (fun ch w9 hP9 => ?_) ?_
   ·
    skip
    obtain ⟨e, h1, rfl, hc⟩ := hP9
    exact (⟨e, dec_e3 hg1 hn (by rw [hgm]; exact gcat_err h1), rfl, hs.chg.trans hc (fun _ _ h => h)⟩ : CmS b g w _ _)
   rintro v26 w9 hR9
   obtain ⟨d, q, hd, rfl, hc5, hB5⟩ := hR9
   have hs := hs.turn hc5 hB5
   have hB := hs.blk
   have hql := gdig_len hd
   refine ⟨trivial, ?_⟩
   refine RH.two 5 10 kr_ ?_ ?_
   ·
    skip
    refine RS.val rfl (Y.load1 Tryd.underlying23 rfl hB.mem.reader1.com0 rfl) de_ ⟨trivial, ?_⟩
    refine RH.one 10 kr_ ?_
    refine RS.st rfl (St.buildSlice rfl (bs1_dig d)) de_ fun v27 w10 hR10 => ?_
    obtain ⟨k2, rfl, hg6, hB6, hx6⟩ := hR10
    have hs := hs.ext hx6
    have hB := hs.blk
    refine ⟨trivial, ?_⟩
    refine RH.one 11 kr_ ?_
    refine RS.st rfl (St.append Tryd.underlying23 Tryd.underlying23 ai_dig rfl rfl hs.ownP (Src.one hB6 (digC_length _)) one_digC (by rw [flat_length digC_length]; omega)) de_ fun v28 w11 hR11 => ?_
    have hB7 := hs.stillP hR11.2.1
    obtain ⟨A7, m7, c7, rfl⟩ := hR11.1.lens
    refine ⟨trivial, ?_⟩
    refine RH.tk 12 trivial rfl (fun wq hq => Y.nilCheck rfl) ?_
    refine RH.tk 13 trivial rfl (fun wq hq => Y.fieldAddr fo_commitreader1 rfl) ?_
    refine RH.tk 14 trivial rfl (fun wq hq => Y.fieldAddr fo_apiCommit0 rfl) ?_
    refine RH.one 15 kr_ ?_
    refine RS.store rfl (g := g) (pre := [(.slice A mb cb), .int .i64 (q : Int)]) (old := [pv]) (post := [.string (bs []), .string (bs []), .slice none 0 0]) (new := [.slice A7 m7 c7]) rfl rfl rfl rfl kr_ hB7 rfl (one1 rfl) (fun w12 hc12 hB12_ => ?_)
    have hs := hs.pushP (d := d) hR11 hc12 hB12_
    refine ⟨trivial, ?_⟩
    refine RH.done kr_ ?_
    refine hK8 _ _ ?_; try clear hK8
    refine CW.region ?_
    refine WL.v (Y.add rfl rfl o2_) ?_
    refine WL.m rfl ?_
    refine WL.nil ?_
    refine ⟨(i + 1, ps ++ [d], _, q), by show n - (i + 1) < n - i; omega, Fr.ok, by show i + 1 ≤ n; omega, by simp [hpl], hql, ?_, hs⟩
    show gmany gdig b n a1 = gcat (ps ++ [d]) (gmany gdig b (n - (i + 1)) q)
    rw [hgm, gcat_ok hd, show n - (i + 1) = k by omega]
   ·
    skip
    refine RS.st rfl (St.buildSlice rfl (bs1_dig d)) de_ fun v27 w13 hR13 => ?_
    obtain ⟨k2, rfl, hg6, hB6, hx6⟩ := hR13
    have hs := hs.ext hx6
    have hB := hs.blk
    refine ⟨trivial, ?_⟩
    refine RH.one 5 kr_ ?_
    refine RS.val rfl (Y.load1 Tryd.underlying23 rfl hB.mem.reader1.com0 rfl) de_ ⟨trivial, ?_⟩
    refine RH.one 11 kr_ ?_
    refine RS.st rfl (St.append Tryd.underlying23 Tryd.underlying23 ai_dig rfl rfl hs.ownP (Src.one hB6 (digC_length _)) one_digC (by rw [flat_length digC_length]; omega)) de_ fun v28 w14 hR14 => ?_
    have hB7 := hs.stillP hR14.2.1
    obtain ⟨A7, m7, c7, rfl⟩ := hR14.1.lens
    refine ⟨trivial, ?_⟩
    refine RH.tk 12 trivial rfl (fun wq hq => Y.nilCheck rfl) ?_
    refine RH.tk 13 trivial rfl (fun wq hq => Y.fieldAddr fo_commitreader1 rfl) ?_
    refine RH.tk 14 trivial rfl (fun wq hq => Y.fieldAddr fo_apiCommit0 rfl) ?_
    refine RH.one 15 kr_ ?_
    refine RS.store rfl (g := g) (pre := [(.slice A mb cb), .int .i64 (q : Int)]) (old := [pv]) (post := [.string (bs []), .string (bs []), .slice none 0 0]) (new := [.slice A7 m7 c7]) rfl rfl rfl rfl kr_ hB7 rfl (one1 rfl) (fun w15 hc15 hB15_ => ?_)
    have hs := hs.pushP (d := d) hR14 hc15 hB15_
    refine ⟨trivial, ?_⟩
    refine RH.done kr_ ?_
    refine hK8 _ _ ?_; try clear hK8
    refine CW.region ?_
    refine WL.v (Y.add rfl rfl o2_) ?_
    refine WL.m rfl ?_
    refine WL.nil ?_
    refine ⟨(i + 1, ps ++ [d], _, q), by show n - (i + 1) < n - i; omega, Fr.ok, by show i + 1 ≤ n; omega, by simp [hpl], hql, ?_, hs⟩
    show gmany gdig b n a1 = gcat (ps ++ [d]) (gmany gdig b (n - (i + 1)) q)
    rw [hgm, gcat_ok hd, show n - (i + 1) = k by omega]
 refine CW.exit ?_
 refine hK3 _ _ ?_; try clear hK3
 refine CW.seq fun K9 hK9 => ?_
 have hps : gmany gdig b n a1 = .ok (ps, p) := by rw [hgm, show n - i = 0 by omega]; exact gcat_end
 refine CW.region ?_
 refine WL.m rfl ?_
 refine WL.m rfl ?_
 refine WL.v (Y.nilCheck rfl) ?_
 refine WL.v (Y.fieldAddr fo_commitreader0 rfl) ?_
 refine WL.callOr Tryd.func42 rfl rfl rfl (ptext_any g _ (.slice A mb cb) b p _ _ hs.blk hb hbg hp) (by simp) (fun ch w16 hP16 => ?_) ?_
 ·
  skip
  obtain ⟨e, h1, rfl, hc⟩ := hP16
  exact (⟨e, dec_e4 hg1 hn hps h1, rfl, hs.chg.trans hc (fun _ _ h => h)⟩ : CmS b g w _ _)
 rintro v37 w16 hR16
 obtain ⟨au, a3, hau, rfl, hc16, hB16⟩ := hR16
 have hs := hs.turn hc16 hB16
 have hla := gtext_len hau hp
 refine WL.v (Y.nilCheck rfl) ?_
 refine WL.v (Y.fieldAddr fo_commitreader1 rfl) ?_
 refine WL.v (Y.fieldAddr fo_apiCommit1 rfl) ?_
 refine WL.store (g := g) (pre := [(.slice A mb cb), .int .i64 (a3 : Int), pv]) (old := [.string (bs [])]) (post := [.string (bs []), .slice none 0 0]) (new := [.string (bs au)]) rfl rfl rfl rfl kr_ hs.blk ln_ (one1 rfl) (fun w17 hc17 hB17_ => ?_)
 have hs := hs.turn hc17 (q := a3) (au' := bs au) hB17_
 have hb := hb0.chg hs.chg hbg
 refine WL.nil (hK9 _ _ ?_); try clear hK9
 refine CW.sr fun K10 hK10 => ?_
 refine WL.m rfl ?_
 refine WL.m rfl ?_
 refine WL.v (Y.nilCheck rfl) ?_
 refine WL.v (Y.fieldAddr fo_commitreader0 rfl) ?_
 refine WL.callOr Tryd.func42 rfl rfl rfl (ptext_any g _ (.slice A mb cb) b a3 _ _ hs.blk hb hbg hla.2.1) (by simp) (fun ch w18 hP18 => ?_) ?_
 ·
  skip
  obtain ⟨e, h1, rfl, hc⟩ := hP18
  exact (⟨e, dec_e5 hg1 hn hps hau h1, rfl, hs.chg.trans hc (fun _ _ h => h)⟩ : CmS b g w _ _)
 rintro v45 w18 hR18
 obtain ⟨no, a4, hno, rfl, hc18, hB18⟩ := hR18
 have hs := hs.turn hc18 hB18
 have hln := gtext_len hno hla.2.1
 refine WL.v (Y.nilCheck rfl) ?_
 refine WL.v (Y.fieldAddr fo_commitreader1 rfl) ?_
 refine WL.v (Y.fieldAddr fo_apiCommit2 rfl) ?_
 refine WL.store (g := g) (pre := [(.slice A mb cb), .int .i64 (a4 : Int), pv, .string (bs au)]) (old := [.string (bs [])]) (post := [.slice none 0 0]) (new := [.string (bs no)]) rfl rfl rfl rfl kr_ hs.blk ln_ (one1 rfl) (fun w19 hc19 hB19_ => ?_)
 have hs := hs.turn hc19 (q := a4) (no' := bs no) hB19_
 have hb := hb0.chg hs.chg hbg
 refine WL.nil (hK10 _ _ ?_); try clear hK10
 refine CW.sr fun K11 hK11 => ?_
 refine WL.m rfl ?_
 refine WL.v (Y.nilCheck rfl) ?_
 refine WL.v (Y.fieldAddr fo_commitreader0 rfl) ?_
 refine WL.callOr Tryd.func39 rfl rfl rfl (pnum_any g _ (.slice A mb cb) b a4 _ _ hs.blk hb hbg hln.2.1) (by simp) (fun ch w20 hP20 => ?_) ?_
 ·
  skip
  obtain ⟨e, h1, rfl, hc⟩ := hP20
  exact (⟨e, dec_e6 hg1 hn hps hau hno h1, rfl, hs.chg.trans hc (fun _ _ h => h)⟩ : CmS b g w _ _)
 rintro v52 w20 hR20
 obtain ⟨m, a5, hgm1, rfl, hc20, hB20⟩ := hR20
 have hs := hs.turn hc20 hB20
 have hl5 := gnum_len hgm1 hln.2.1
 refine WL.a rfl ?_
 refine WL.nil (hK11 _ _ ?_); try clear hK11
 refine CW.sr fun K12 hK12 => ?_
 refine WL.m rfl ?_
 refine WL.v (Y.nilCheck rfl) ?_
 refine WL.v (Y.fieldAddr fo_commitreader0 rfl) ?_
 refine WL.m rfl ?_
 refine WL.v (Y.gtr rfl rfl) ?_
 refine WL.callOr Tryd.func40 rfl rfl rfl (refuse_any _ _ _ _) (by simp) (fun ch w21 hP21 => ?_) ?_
 ·
  skip
  obtain ⟨h1, rfl, hx⟩ := hP21
  have := of_decide_eq_true h1
  exact (⟨4, dec_e7 hg1 hn hps hau hno hgm1 om_, rfl, (hs.ext hx).chg⟩ : CmS b g w _ _)
 rintro v58 w21 hR21
 obtain ⟨h1, rfl, hx21⟩ := hR21
 have hm := of_decide_eq_false h1
 have hm : ¬ 2000 < m := by omega
 have hs := hs.ext hx21
 refine WL.nil (hK12 _ _ ?_); try clear hK12
 refine CW.seq fun K13 hK13 => ?_
 refine CW.sr fun K14 hK14 => ?_
 refine WL.m rfl ?_
 refine WL.m rfl ?_
 refine WL.nil (hK14 _ _ ?_); try clear hK14
 refine CW.block ?_
 refine CW.loop (X := Nat × List OpD × Value × Nat) (fun x => [(0, .pointer (some ⟨g, 0, none⟩)), (59, .int .i64 (m : Int)), (60, .int .i64 (x.1 : Int))]) (fun x w0 => x.1 ≤ m ∧ x.2.1.length = x.1 ∧ x.2.2.2 ≤ b.length ∧ gmany gop b m a5 = gcat x.2.1 (gmany gop b (m - x.1) x.2.2.2) ∧ Rdr w g (.slice A mb cb) w0 x.2.2.2 pv ps (bs au) (bs no) x.2.2.1 x.2.1) (fun x => m - x.1) (0, [], .slice none 0 0, a5) Fr.ok ⟨Nat.zero_le _, rfl, hl5.2, (gcat_nil _).symm, hs⟩ ?_
 intro x w22 hl22
 clear hs
 obtain ⟨j, os, ov, r⟩ := x
 dsimp only at hl22 ⊢
 obtain ⟨hj, hol, hr, hgo, hs⟩ := hl22
 have hb := hb0.chg hs.chg hbg
 refine CW.sr fun K15 hK15 => ?_
 refine WL.v (Y.lss rfl rfl) ?_
 refine WL.nil (hK15 _ _ ?_); try clear hK15
 refine CW.seq fun K16 hK16 => ?_
 (first | refine cd_ rfl ?_ ?_ | refine ce_ rfl ?_ ?_ | refine cn_ rfl ?_ ?_ | refine cb_ rfl ?_ ?_) <;> intro ht17
 ·
  -- then
  refine CW.skip ?_
  refine hK16 _ _ ?_; try clear hK16
  refine CW.seq fun K18 hK18 => ?_
  refine CW.block ?_
  refine CW.held (fun _ => True) kr_ 14 rfl fun w23 hx23 => ?_
  have hs := hs.ext hx23
  have hb := hb.ext hx23
  have hB := hs.blk
  obtain ⟨k, hk⟩ : ∃ k, m - j = k + 1 := ⟨m - j - 1, by omega⟩
  rw [hk] at hgo
  refine RH.tk 0 trivial rfl (fun wq hq => Y.move rfl) ?_
  refine RH.tk 1 trivial rfl (fun wq hq => Y.move rfl) ?_
  refine RH.tk 2 trivial rfl (fun wq hq => Y.nilCheck rfl) ?_
  refine RH.tk 3 trivial rfl (fun wq hq => Y.fieldAddr fo_commitreader1 rfl) ?_
  refine RH.tk 4 trivial rfl (fun wq hq => Y.fieldAddr fo_apiCommit3 rfl) ?_
  refine RH.tk 6 trivial rfl (fun wq hq => Y.move rfl) ?_
  refine RH.two 5 7 kr_ ?_ ?_
  ·
   skip
   refine RS.val rfl (Y.load1 Tryd.underlying44 rfl hB.mem.reader1.com3 rfl) de_ ⟨trivial, ?_⟩
   refine RH.one 7 kr_ ?_
   refine RS.callOr rfl Tryd.func43 rfl rfl rfl (pop_any g _ (.slice A mb cb) b r _ _ hs.blk hb hbg hr) (by simp) (fun ch w24 hP24 => ?_) ?_
   ·
    skip
    obtain ⟨e, h1, rfl, hc⟩ := hP24
    exact (⟨e, dec_e8 hg1 hn hps hau hno hgm1 hm (by rw [hgo]; exact gcat_err h1), rfl, hs.chg.trans hc (fun _ _ h => h)⟩ : CmS b g w _ _)
   rintro v69 w24 hR24
   obtain ⟨y, q, hy, rfl, hc5, hB5⟩ := hR24
   have hs := hs.turn hc5 hB5
   have hB := hs.blk
   have hql := gop_len hy hr
   refine ⟨trivial, ?_⟩
   refine RH.one 8 kr_ ?_
   refine RS.st rfl (St.buildSlice rfl (bs1_op y)) de_ fun v70 w25 hR25 => ?_
   obtain ⟨k2, rfl, hg6, hB6, hx6⟩ := hR25
   have hs := hs.ext hx6
   have hB := hs.blk
   refine ⟨trivial, ?_⟩
   refine RH.one 9 kr_ ?_
   refine RS.st rfl (St.append Tryd.underlying44 Tryd.underlying44 ai_op rfl rfl hs.ownO (Src.one hB6 (opC_length _)) one_opC (by rw [flat_length opC_length]; omega)) de_ fun v71 w26 hR26 => ?_
   have hB7 := hs.stillO hR26.2.1
   obtain ⟨A7, m7, c7, rfl⟩ := hR26.1.lens
   refine ⟨trivial, ?_⟩
   refine RH.tk 10 trivial rfl (fun wq hq => Y.nilCheck rfl) ?_
   refine RH.tk 11 trivial rfl (fun wq hq => Y.fieldAddr fo_commitreader1 rfl) ?_
   refine RH.tk 12 trivial rfl (fun wq hq => Y.fieldAddr fo_apiCommit3 rfl) ?_
   refine RH.one 13 kr_ ?_
   refine RS.store rfl (g := g) (pre := [(.slice A mb cb), .int .i64 (q : Int), pv, .string (bs au), .string (bs no)]) (old := [ov]) (post := []) (new := [.slice A7 m7 c7]) rfl rfl rfl rfl kr_ hB7 rfl (one1 rfl) (fun w27 hc27 hB27_ => ?_)
   have hs := hs.pushO (x := y) hR26 hc27 hB27_
   refine ⟨trivial, ?_⟩
   refine RH.done kr_ ?_
   refine hK18 _ _ ?_; try clear hK18
   refine CW.region ?_
   refine WL.v (Y.add rfl rfl o2_) ?_
   refine WL.m rfl ?_
   refine WL.nil ?_
   refine ⟨(j + 1, os ++ [y], _, q), by show m - (j + 1) < m - j; omega, Fr.ok, by show j + 1 ≤ m; omega, by simp [hol], hql, ?_, hs⟩
   show gmany gop b m a5 = gcat (os ++ [y]) (gmany gop b (m - (j + 1)) q)
   rw [hgo, gcat_ok hy, show m - (j + 1) = k by omega]
  ·
   skip
   refine RS.callOr rfl Tryd.func43 rfl rfl rfl (pop_any g _ (.slice A mb cb) b r _ _ hs.blk hb hbg hr) (by simp) (fun ch w28 hP28 => ?_) ?_
   ·
    skip
    obtain ⟨e, h1, rfl, hc⟩ := hP28
    exact (⟨e, dec_e8 hg1 hn hps hau hno hgm1 hm (by rw [hgo]; exact gcat_err h1), rfl, hs.chg.trans hc (fun _ _ h => h)⟩ : CmS b g w _ _)
   rintro v69 w28 hR28
   obtain ⟨y, q, hy, rfl, hc5, hB5⟩ := hR28
   have hs := hs.turn hc5 hB5
   have hB := hs.blk
   have hql := gop_len hy hr
   refine ⟨trivial, ?_⟩
   refine RH.two 5 8 kr_ ?_ ?_
   ·
    skip
    refine RS.val rfl (Y.load1 Tryd.underlying44 rfl hB.mem.reader1.com3 rfl) de_ ⟨trivial, ?_⟩
    refine RH.one 8 kr_ ?_
    refine RS.st rfl (St.buildSlice rfl (bs1_op y)) de_ fun v70 w29 hR29 => ?_
    obtain ⟨k2, rfl, hg6, hB6, hx6⟩ := hR29
    have hs := hs.ext hx6
    have hB := hs.blk
    refine ⟨trivial, ?_⟩
    refine RH.one 9 kr_ ?_
    refine RS.st rfl (St.append Tryd.underlying44 Tryd.underlying44 ai_op rfl rfl hs.ownO (Src.one hB6 (opC_length _)) one_opC (by rw [flat_length opC_length]; omega)) de_ fun v71 w30 hR30 => ?_
    have hB7 := hs.stillO hR30.2.1
    obtain ⟨A7, m7, c7, rfl⟩ := hR30.1.lens
    refine ⟨trivial, ?_⟩
    refine RH.tk 10 trivial rfl (fun wq hq => Y.nilCheck rfl) ?_
    refine RH.tk 11 trivial rfl (fun wq hq => Y.fieldAddr fo_commitreader1 rfl) ?_
    refine RH.tk 12 trivial rfl (fun wq hq => Y.fieldAddr fo_apiCommit3 rfl) ?_
    refine RH.one 13 kr_ ?_
    refine RS.store rfl (g := g) (pre := [(.slice A mb cb), .int .i64 (q : Int), pv, .string (bs au), .string (bs no)]) (old := [ov]) (post := []) (new := [.slice A7 m7 c7]) rfl rfl rfl rfl kr_ hB7 rfl (one1 rfl) (fun w31 hc31 hB31_ => ?_)
    have hs := hs.pushO (x := y) hR30 hc31 hB31_
    refine ⟨trivial, ?_⟩
    refine RH.done kr_ ?_
    refine hK18 _ _ ?_; try clear hK18
    refine CW.region ?_
    refine WL.v (Y.add rfl rfl o2_) ?_
    refine WL.m rfl ?_
    refine WL.nil ?_
    refine ⟨(j + 1, os ++ [y], _, q), by show m - (j + 1) < m - j; omega, Fr.ok, by show j + 1 ≤ m; omega, by simp [hol], hql, ?_, hs⟩
    show gmany gop b m a5 = gcat (os ++ [y]) (gmany gop b (m - (j + 1)) q)
    rw [hgo, gcat_ok hy, show m - (j + 1) = k by omega]
   ·
    skip
    refine RS.st rfl (St.buildSlice rfl (bs1_op y)) de_ fun v70 w32 hR32 => ?_
    obtain ⟨k2, rfl, hg6, hB6, hx6⟩ := hR32
    have hs := hs.ext hx6
    have hB := hs.blk
    refine ⟨trivial, ?_⟩
    refine RH.one 5 kr_ ?_
    refine RS.val rfl (Y.load1 Tryd.underlying44 rfl hB.mem.reader1.com3 rfl) de_ ⟨trivial, ?_⟩
    refine RH.one 9 kr_ ?_
    refine RS.st rfl (St.append Tryd.underlying44 Tryd.underlying44 ai_op rfl rfl hs.ownO (Src.one hB6 (opC_length _)) one_opC (by rw [flat_length opC_length]; omega)) de_ fun v71 w33 hR33 => ?_
    have hB7 := hs.stillO hR33.2.1
    obtain ⟨A7, m7, c7, rfl⟩ := hR33.1.lens
    refine ⟨trivial, ?_⟩
    refine RH.tk 10 trivial rfl (fun wq hq => Y.nilCheck rfl) ?_
    refine RH.tk 11 trivial rfl (fun wq hq => Y.fieldAddr fo_commitreader1 rfl) ?_
    refine RH.tk 12 trivial rfl (fun wq hq => Y.fieldAddr fo_apiCommit3 rfl) ?_
    refine RH.one 13 kr_ ?_
    refine RS.store rfl (g := g) (pre := [(.slice A mb cb), .int .i64 (q : Int), pv, .string (bs au), .string (bs no)]) (old := [ov]) (post := []) (new := [.slice A7 m7 c7]) rfl rfl rfl rfl kr_ hB7 rfl (one1 rfl) (fun w34 hc34 hB34_ => ?_)
    have hs := hs.pushO (x := y) hR33 hc34 hB34_
    refine ⟨trivial, ?_⟩
    refine RH.done kr_ ?_
    refine hK18 _ _ ?_; try clear hK18
    refine CW.region ?_
    refine WL.v (Y.add rfl rfl o2_) ?_
    refine WL.m rfl ?_
    refine WL.nil ?_
    refine ⟨(j + 1, os ++ [y], _, q), by show m - (j + 1) < m - j; omega, Fr.ok, by show j + 1 ≤ m; omega, by simp [hol], hql, ?_, hs⟩
    show gmany gop b m a5 = gcat (os ++ [y]) (gmany gop b (m - (j + 1)) q)
    rw [hgo, gcat_ok hy, show m - (j + 1) = k by omega]
 refine CW.exit ?_
 refine hK13 _ _ ?_; try clear hK13
 refine CW.seq fun K19 hK19 => ?_
 have hB := hs.blk
 have hos : gmany gop b m a5 = .ok (os, r) := by rw [hgo, show m - j = 0 by omega]; exact gcat_end
 refine CW.held (fun wq => Ext w22 wq) kr_ 16 rfl fun w35 hS => ?_
 refine RH.tk 0 hS rfl (fun wq hq => Y.move rfl) ?_
 refine RH.tk 1 hS rfl (fun wq hq => Y.nilCheck rfl) ?_
 refine RH.tk 2 hS rfl (fun wq hq => Y.fieldAddr fo_commitreader0 rfl) ?_
 refine RH.tk 3 hS rfl (fun wq hq => Y.move rfl) ?_
 refine RH.tk 4 hS rfl (fun wq hq => Y.nilCheck rfl) ?_
 refine RH.tk 5 hS rfl (fun wq hq => Y.fieldAddr fo_commitreader0 rfl) ?_
 refine RH.tk 6 hS rfl (fun wq hq => Y.fieldAddr fo_commitplace1 rfl) ?_
 refine RH.tk 7 hS rfl (fun wq hq => Y.load1 Tryd.underlying3 rfl (hB.ext hq).mem.reader0.place1 rfl) ?_
 refine RH.tk 8 hS rfl (fun wq hq => Y.move rfl) ?_
 refine RH.tk 9 hS rfl (fun wq hq => Y.nilCheck rfl) ?_
 refine RH.tk 10 hS rfl (fun wq hq => Y.fieldAddr fo_commitreader0 rfl) ?_
 refine RH.tk 11 hS rfl (fun wq hq => Y.fieldAddr fo_commitplace0 rfl) ?_
 refine RH.tk 12 hS rfl (fun wq hq => Y.load1 Tryd.underlying32 rfl (hB.ext hq).mem.reader0.place0 rfl) ?_
 refine RH.tk 13 hS rfl (fun wq hq => Y.len_slice Tryd.underlying32 rfl) ?_
 refine RH.tk 14 hS rfl (fun wq hq => Y.neq rfl rfl) ?_
 refine RH.one 15 kr_ ?_
 refine RS.callOr rfl Tryd.func40 rfl rfl rfl (refuse_any _ _ _ _) (by simp) (fun ch w36 hP36 => ?_) ?_
 ·
  skip
  obtain ⟨h1, rfl, hx⟩ := hP36
  have h2 := of_decide_eq_true h1
  exact (⟨7, dec_e9 hg1 hn hps hau hno hgm1 hm hos om_, rfl, ((hs.ext hS).ext hx).chg⟩ : CmS b g w _ _)
 rintro v91 w36 hR36
 obtain ⟨h1, rfl, hx36⟩ := hR36
 have hS := hS.thenExt hx36
 have h2 := of_decide_eq_false h1
 have hend : r = b.length := by omega
 refine ⟨hS, ?_⟩
 refine RH.done kr_ ?_
 have hx37 := hS
 have hs := hs.ext hx37
 have hB := hs.blk
 refine hK19 _ _ ?_; try clear hK19
 refine CW.sr fun K20 hK20 => ?_
 refine WL.m rfl ?_
 refine WL.v (Y.nilCheck rfl) ?_
 refine WL.v (Y.fieldAddr fo_commitreader1 rfl) ?_
 refine WL.v (Y.load Tryd.underlying46 rfl hB.mem.reader1 (sz_apiCommit _ _ _ _) rfl) ?_
 refine WL.call Tryd.func44 rfl rfl rfl ((may_any _ ⟨ps, bs au, bs no, os⟩ _ (hs.com (by rw [bs_size]; unfold maxLen; omega) (by rw [bs_size]; unfold maxLen; omega)))) (by simp) ?_; rintro v w38 ⟨rfl, hx38⟩
 refine WL.a rfl ?_
 refine WL.nil (hK20 _ _ ?_); try clear hK20
 refine CW.region ?_
 refine WL.m rfl ?_
 refine WL.v (Y.nilCheck rfl) ?_
 refine WL.v (Y.fieldAddr fo_commitreader0 rfl) ?_
 refine WL.m rfl ?_
 refine WL.v (Y.neq rfl rfl) ?_
 refine WL.m rfl ?_
 refine WL.callOr Tryd.func40 rfl rfl rfl (refuse_any _ _ _ _) (by simp) (fun ch w39 hP39 => ?_) ?_
 ·
  skip
  obtain ⟨h1, rfl, hx⟩ := hP39
  exact (⟨_, dec_e10 hg1 hn hps hau hno hgm1 hm hos hend (of_decide_eq_true h1), rfl, ((hs.ext hx38).ext hx).chg⟩ : CmS b g w _ _)
 rintro v103 w39 hR39
 obtain ⟨h1, rfl, hx39⟩ := hR39
 have h0 := Decidable.not_not.1 (of_decide_eq_false h1)
 refine WL.nil ?_
 refine ⟨_, rfl, ?_⟩
 exact ⟨rfl, _, pv, ov, dec_ok hg1 hn hps hau hno hgm1 hm hos hend h0, by have h := (hs.ext hx38).ext hx39; rwa [hend] at h⟩
end Go.Proofs.YtfanmpbapabboaaDoor
