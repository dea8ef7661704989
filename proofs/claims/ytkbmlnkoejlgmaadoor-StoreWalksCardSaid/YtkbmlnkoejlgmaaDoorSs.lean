/- (*Hash).Write, walked. No condition. -/
import Derived.Test.YtkbmlnkoejlgmaaDoorSr
set_option linter.unusedSimpArgs false
set_option linter.unusedVariables false
namespace Go.Fw
open Go.RowKit
theorem By.drop {w : World} {a : Addr} {m c k : Nat} {bs : List UInt8} (h : By w (.slice (some a) m c) bs) (hk : k ≤ m) : By w (.slice (if c = k then some a else (some a).map fun a => a.add (k * 1)) (m - k) (c - k)) (bs.drop k) := by
  obtain ⟨hm, hmc, hcm⟩ := h.len
  refine ⟨_, _, _, rfl, by rw [List.length_drop, hm], by omega, by omega, fun h0 => ?_, fun h0 => ?_⟩
  · obtain ⟨a', e, hma⟩ := h.mem.1 (by omega)
    injection e with e; subst e
    rw [if_neg (by omega)]
    refine ⟨_, rfl, ?_⟩
    rw [Nat.mul_one]
    have := hma.drop k
    rwa [bytesC, ← List.map_drop] at this
  · split at h0 <;> simp at h0
theorem add_off (g i j : Nat) : (⟨g, i, none⟩ : Addr).add j = ⟨g, i + j, none⟩ := by unfold Addr.add; split <;> simp_all
end Go.Fw
namespace Go.Proofs.YtkbmlnkoejlgmaaDoor
open Go.RowKit Go.Fw Go.Pl
theorem fo_digestHash0 : FieldOff Tryd.prog TH 0 0 := ⟨_, _, 1, Tryd.underlying78, rfl, sz_bool, by decide, rfl⟩
theorem fo_digestHash1 : FieldOff Tryd.prog TH 1 1 := ⟨_, _, 8, Tryd.underlying78, rfl, sz_digeststate beginV, by decide, rfl⟩
theorem fo_digestHash2 : FieldOff Tryd.prog TH 2 9 := ⟨_, _, 64, Tryd.underlying78, rfl, by kernel_rfl, by decide, rfl⟩
theorem fo_digestHash3 : FieldOff Tryd.prog TH 3 73 := ⟨_, _, 1, Tryd.underlying78, rfl, sz_int, by decide, rfl⟩
theorem hash_split (s : V8) (rest : List UInt8) (n i k : Nat) : hashC s rest n = (.bool true :: (wds s.ws ++ bytesC (rest.take i))) ++ bytesC ((rest.drop i).take k) ++ (bytesC (rest.drop (i + k)) ++ [.int .i64 (n : Int)]) := by
  have e : rest = rest.take i ++ ((rest.drop i).take k ++ rest.drop (i + k)) := by rw [← List.drop_drop, List.take_append_drop, List.take_append_drop]
  conv => lhs; rw [e]
  simp only [hashC, bytesC_append, List.append_assoc, List.cons_append]
theorem hash_join (s : V8) (xs rest ys : List UInt8) (n : Nat) : hashC s (restK xs rest ys) n = (.bool true :: (wds s.ws ++ bytesC (rest.take (xs.length % 64)))) ++ bytesC ys ++ (bytesC (rest.drop (xs.length % 64 + ys.length)) ++ [.int .i64 (n : Int)]) := by
  simp only [hashC, restK, bytesC_append, List.append_assoc, List.cons_append]

set_option maxRecDepth 20000 in
set_option maxHeartbeats 1000000 in
theorem write_any (g : Nat) (xs rest : List UInt8) (u : Value) (b : List UInt8) (w : World) (hB : Blk w g TH (hashC (blocksN xs (xs.length / 64)) rest xs.length)) (hR : RestOf xs rest) (hb : By w u b) (hbo : b ≠ [] → ∀ k, u.ownBlock = some k → k ≠ g) (hK : Mem w ⟨0, 0, none⟩ (wds keysL)) (hg0 : g ≠ 0) (hN : xs.length + b.length ≤ 4611686018427387904) : Calls Tryd.prog 25 #[.pointer (some ⟨g, 0, none⟩), u] w (Ret fun v w' => ∃ rest', Blk w' g TH (hashC (blocksN (xs ++ b) ((xs ++ b).length / 64)) rest' (xs ++ b).length) ∧ RestOf (xs ++ b) rest' ∧ Chg (· = g) w w') := by
  obtain ⟨A, m, c, rfl⟩ := hb.lens
  refine calls_of_CW 57 [] [(0, .pointer (some ⟨g, 0, none⟩)), (1, .slice A m c)] Tryd.func25 rfl rfl rfl (by simp) args2 ?_
  refine CW.seq fun K1 hK1 => ?_
  refine CW.seq_test 13 (False) ?_ ?_
  · refine CW.region ?_
    refine WL.val (Y.move rfl) (by decide) ?_   -- t5 := move t0
    refine WL.val (Y.eql_digestHash rfl rfl) (by decide) ?_   -- t6 := binOp eql 61 t5 c(['Go.Value.pointer', 'none']) 61
    refine WL.val (Y.move rfl) (by decide) ?_   -- t7 := move t6
    first | refine WL.casesD (d := 7) rfl (fun hg7 => ?_) (fun hg7 => ?_) | refine WL.casesND (d := 7) rfl (fun hg7 => ?_) (fun hg7 => ?_) | refine WL.cases (d := 7) rfl (fun hg7 => ?_) (fun hg7 => ?_)
    · -- t7 = T
      refine WL.goff rfl rfl (by decide) ?_   -- t8 := move t0 [if 2=false]
      refine WL.goff rfl rfl (by decide) ?_   -- t9 := nilCheck t8 [if 2=false]
      refine WL.goff rfl rfl (by decide) ?_   -- t10 := fieldAddr 78 t9 0 [if 2=false]
      refine WL.goff rfl rfl (by decide) ?_   -- t11 := load 4 t10 [if 2=false]
      refine WL.goff rfl rfl (by decide) ?_   -- t12 := unOp not 4 t11 [if 2=false]
      refine WL.val (Y.pick rfl rfl) (by decide) ?_   -- t13 := pick t7 c(true) t12
      refine WL.nil ⟨⟨_, rfl, ?_⟩, rfl, (by repeat (first | exact Fr.le.refl | refine Fr.le.push rfl ?_))⟩
      first | (simp only [*, Bool.not_eq_true', decide_eq_false_iff_not, decide_eq_true_eq, not_true_eq_false, not_false_eq_true, true_and, false_and, and_true, and_false, false_or, or_false, true_or, or_true, iff_true, true_iff, iff_false, false_iff]; done) | (simp_all; done) | (refine congrArg Value.bool (Bool.eq_iff_iff.2 ?_); simp_all; done) | (simp_all; omega)
    · -- t7 = F
      refine WL.gval rfl rfl (Y.move rfl) (by decide) ?_   -- t8 := move t0 [if 2=false]
      refine WL.gval rfl rfl (Y.nilCheck rfl) (by decide) ?_   -- t9 := nilCheck t8 [if 2=false]
      refine WL.gval rfl rfl (Y.fieldAddr fo_digestHash0 rfl) (by decide) ?_   -- t10 := fieldAddr 78 t9 0 [if 2=false]
      refine WL.gval rfl rfl (Y.load1 Tryd.underlying4 rfl (Mem.digestHash0 hB.mem) rfl) (by decide) ?_   -- t11 := load 4 t10 [if 2=false]
      refine WL.gval rfl rfl (Y.not rfl) (by decide) ?_   -- t12 := unOp not 4 t11 [if 2=false]
      refine WL.val (Y.pick rfl rfl) (by decide) ?_   -- t13 := pick t7 c(true) t12
      refine WL.nil ⟨⟨_, rfl, ?_⟩, rfl, (by repeat (first | exact Fr.le.refl | refine Fr.le.push rfl ?_))⟩
      first | (simp only [*, Bool.not_eq_true', decide_eq_false_iff_not, decide_eq_true_eq, not_true_eq_false, not_false_eq_true, true_and, false_and, and_true, and_false, false_or, or_false, true_or, or_true, iff_true, true_iff, iff_false, false_iff]; done) | (simp_all; done) | (refine congrArg Value.bool (Bool.eq_iff_iff.2 ?_); simp_all; done) | (simp_all; omega)
  first | refine CW.condD rfl (fun ht2 => ?_) (fun ht2 => ?_) | refine CW.condND rfl (fun ht2 => ?_) (fun ht2 => ?_) | refine CW.condN rfl (fun ht2 => ?_) (fun ht2 => ?_) | refine CW.cond rfl (fun ht2 => ?_) (fun ht2 => ?_)
  · -- then
    refine CW.ret ⟨_, rfl, ?_⟩
    exact False.elim (by assumption)
  -- else
  refine CW.skip ?_
  refine hK1 _ _ ?_; try clear hK1 K1
  refine CW.block ?_   -- block 0
  refine CW.loop (X := Nat × List UInt8 × Option Addr × Nat × Nat) (fun x => [(0, .pointer (some ⟨g, 0, none⟩)), (1, .slice x.2.2.1 x.2.2.2.1 x.2.2.2.2)]) (fun x w0 => x.1 ≤ b.length ∧ By w0 (.slice x.2.2.1 x.2.2.2.1 x.2.2.2.2) (b.drop x.1) ∧ (b ≠ [] → ∀ k, (Value.slice x.2.2.1 x.2.2.2.1 x.2.2.2.2).ownBlock = some k → k ≠ g) ∧ RestOf (xs ++ b.take x.1) x.2.1 ∧ Blk w0 g TH (hashC (blocksN (xs ++ b.take x.1) ((xs ++ b.take x.1).length / 64)) x.2.1 (xs ++ b.take x.1).length) ∧ Chg (· = g) w w0) (fun x => b.length - x.1) (0, rest, A, m, c) (by repeat (first | exact Fr.le.nil | refine Fr.le.cons rfl ?_)) ⟨Nat.zero_le _, by simpa using hb, hbo, by simpa using hR, by simpa using hB, Chg.refl⟩ ?_
  intro x w1 hl1
  clear hB hR hb hbo
  obtain ⟨p, rest, A, m, c⟩ := x
  dsimp only at hl1 ⊢
  obtain ⟨hp, hby, hbo, hR, hB, hC⟩ := hl1
  obtain ⟨hm, hmc, hcm⟩ := hby.len
  unfold maxLen at hcm
  rw [List.length_drop] at hm
  obtain ⟨ys, hys⟩ : ∃ ys, ys = xs ++ b.take p := ⟨_, rfl⟩
  rw [← hys] at hR hB
  have hyl : ys.length = xs.length + p := by rw [hys, List.length_append, List.length_take]; omega
  refine CW.seq fun K3 hK3 => ?_
  refine CW.seq fun K4 hK4 => ?_
  refine CW.region ?_   -- region 1
  refine WL.val (Y.move rfl) (by decide) ?_   -- t14 := move t1
  refine WL.val (Y.len_slice Tryd.underlying26 rfl) (by decide) ?_   -- t15 := call len(t14) : 26
  refine WL.val (Y.gtr rfl rfl) (by decide) ?_   -- t16 := binOp gtr 3 t15 c(0:i64) 3
  refine WL.nil ?_
  refine hK4 _ _ ?_; try clear hK4 K4
  first | refine CW.condD rfl (fun ht5 => ?_) (fun ht5 => ?_) | refine CW.condND rfl (fun ht5 => ?_) (fun ht5 => ?_) | refine CW.condN rfl (fun ht5 => ?_) (fun ht5 => ?_) | refine CW.cond rfl (fun ht5 => ?_) (fun ht5 => ?_)
  · -- then
    refine CW.skip ?_
    refine hK3 _ _ ?_; try clear hK3 K3
    refine CW.block ?_   -- block 1
    refine CW.seq fun K6 hK6 => ?_
    obtain ⟨a, rfl, hma⟩ := hby.mem.1 (by omega)
    obtain ⟨k, hk⟩ : ∃ k, k = min m (64 - ys.length % 64) := ⟨_, rfl⟩
    have hzl : ((b.drop p).take k).length = k := by rw [List.length_take, List.length_drop]; omega
    refine CW.held (fun _ => True) (by kernel_rfl) 12 rfl fun w2 hx2 => ?_
    have hS : True := trivial
    have hB := hB.ext hx2
    have hma := hma.ext hx2
    refine RH.take 0 (fun _ _ _ _ h => h) (by kernel_rfl) hS rfl (by kernel_rfl) (by kernel_rfl) (fun wq hq => Y.move rfl) (by decide) ?_   -- t17 := move t0
    refine RH.take 1 (fun _ _ _ _ h => h) (by kernel_rfl) hS rfl (by kernel_rfl) (by kernel_rfl) (fun wq hq => Y.nilCheck rfl) (by decide) ?_   -- t18 := nilCheck t17
    refine RH.take 2 (fun _ _ _ _ h => h) (by kernel_rfl) hS rfl (by kernel_rfl) (by kernel_rfl) (fun wq hq => Y.fieldAddr fo_digestHash2 rfl) (by decide) ?_   -- t19 := fieldAddr 78 t18 2
    refine RH.take 3 (fun _ _ _ _ h => h) (by kernel_rfl) hS rfl (by kernel_rfl) (by kernel_rfl) (fun wq hq => Y.move rfl) (by decide) ?_   -- t20 := move t0
    refine RH.take 4 (fun _ _ _ _ h => h) (by kernel_rfl) hS rfl (by kernel_rfl) (by kernel_rfl) (fun wq hq => Y.nilCheck rfl) (by decide) ?_   -- t21 := nilCheck t20
    refine RH.take 5 (fun _ _ _ _ h => h) (by kernel_rfl) hS rfl (by kernel_rfl) (by kernel_rfl) (fun wq hq => Y.fieldAddr fo_digestHash3 rfl) (by decide) ?_   -- t22 := fieldAddr 78 t21 3
    refine RH.take 9 (fun _ _ _ _ h => h) (by kernel_rfl) hS rfl (by kernel_rfl) (by kernel_rfl) (fun wq hq => Y.move rfl) (by decide) ?_   -- t26 := move t1
    refine RH.one 6 (by kernel_rfl) ?_
    refine RS.val rfl (Y.load1 Tryd.underlying3 rfl (Mem.digestHash3 hR.1 hB.mem) rfl) (by decide) ⟨hS, ?_⟩   -- t23 := load 3 t22
    refine RH.take 7 (fun _ _ _ _ h => h) (by kernel_rfl) hS rfl (by kernel_rfl) (by kernel_rfl) (fun wq hq => Y.remN (q := 64) rfl rfl (by decide)) (by decide) ?_   -- t24 := binOp rem 3 t23 c(64:i64) 3
    refine RH.take 8 (fun _ _ _ _ h => h) (by kernel_rfl) hS rfl (by kernel_rfl) (by kernel_rfl) (fun wq hq => Y.slice_arr_lo Tryd.underlying76 rfl rfl sz_uint8 rfl (by omega)) (by decide) ?_   -- t25 := slice 76 t19 t24 none none
    refine RH.one 10 (by kernel_rfl) ?_
    refine RS.st rfl (St.copy (pre := .bool true :: (wds (blocksN ys (ys.length / 64)).ws ++ bytesC (rest.take (ys.length % 64)))) (old := bytesC ((rest.drop (ys.length % 64)).take k)) (post := bytesC (rest.drop (ys.length % 64 + k)) ++ [.int .i64 (ys.length : Int)]) (news := bytesC ((b.drop p).take k)) Tryd.underlying26 sz_uint8 rfl (by
      rw [add_zero', add_off]
      congr 1
      rw [List.length_cons, List.length_append, bytesC_length, List.length_take, hR.1]
      show _ = 8 + _ + 1
      omega) rfl (by have := hma.take k; rwa [bytesC, ← List.map_take] at this) (by rw [bytesC_length, hzl, hk]) (by rw [← hash_split]; exact hB) (by rw [bytesC_length, bytesC_length, hzl, List.length_take, List.length_drop, hR.1]; omega) one_bytesC) (by decide) fun v27 w3 hR3 => ?_   -- call copy(t25, t26) : 26,26
    obtain ⟨rfl, hc3, hB3⟩ := hR3
    rw [← hk]
    have hB3 : Blk w3 g TH (hashC (blocksN ys (ys.length / 64)) (restK ys rest ((b.drop p).take k)) ys.length) := by rw [hash_join, hzl]; exact hB3
    have hrl : (restK ys rest ((b.drop p).take k)).length = 64 := restK_len hR (by omega)
    refine ⟨hS, ?_⟩
    refine RH.take 11 (fun _ _ _ _ h => h) (by kernel_rfl) hS rfl (by kernel_rfl) (by kernel_rfl) (fun wq hq => Y.assign rfl) (by decide) ?_   -- t4 := assign t27
    refine RH.done (by kernel_rfl) ?_
    refine hK6 _ _ ?_; try clear hK6 K6
    refine CW.seq fun K7 hK7 => ?_
    refine CW.region ?_   -- region 3
    refine WL.val (Y.move rfl) (by decide) ?_   -- t28 := move t0
    refine WL.val (Y.nilCheck rfl) (by decide) ?_   -- t29 := nilCheck t28
    refine WL.val (Y.fieldAddr fo_digestHash3 rfl) (by decide) ?_   -- t30 := fieldAddr 78 t29 3
    refine WL.val (Y.load1 Tryd.underlying3 rfl (Mem.digestHash3 hrl hB3.mem) rfl) (by decide) ?_   -- t31 := load 3 t30
    refine WL.val (Y.move rfl) (by decide) ?_   -- t32 := move t4
    refine WL.val (Y.add rfl rfl ⟨by omega, by omega⟩) (by decide) ?_   -- t33 := binOp add 3 t31 t32 3
    refine WL.val (Y.nilCheck rfl) (by decide) ?_   -- t34 := nilCheck t28
    refine WL.val (Y.fieldAddr fo_digestHash3 rfl) (by decide) ?_   -- t35 := fieldAddr 78 t34 3
    refine WL.store (g := g) (pre := .bool true :: (wds (blocksN ys (ys.length / 64)).ws ++ bytesC (restK ys rest ((b.drop p).take k)))) (old := [.int .i64 (ys.length : Int)]) (post := []) (new := [.int .i64 ((ys.length + k : Nat) : Int)]) rfl (by
      rw [add_zero']
      congr 1
      rw [List.length_cons, List.length_append, bytesC_length, hrl]
      rfl) rfl rfl (by kernel_rfl) (by
      have e : hashC (blocksN ys (ys.length / 64)) (restK ys rest ((b.drop p).take k)) ys.length = (.bool true :: (wds (blocksN ys (ys.length / 64)).ws ++ bytesC (restK ys rest ((b.drop p).take k)))) ++ [.int .i64 (ys.length : Int)] ++ [] := by simp [hashC]
      rw [← e]; exact hB3) (by first | (simp only [List.length_cons, List.length_nil, List.length_map, List.length_replicate, V8.ws, digC_length]; done) | rfl | (simp [digC_length, opC_length]; done) | (simp only [digC_length, opC_length]; omega)) (one1 rfl) (fun w4 hc4 hB4_ => ?_)   -- _ := store 3 t35 t33
    have hB4 : Blk w4 g TH (hashC (blocksN ys (ys.length / 64)) (restK ys rest ((b.drop p).take k)) (ys.length + k)) := by
      have e : hashC (blocksN ys (ys.length / 64)) (restK ys rest ((b.drop p).take k)) (ys.length + k) = (.bool true :: (wds (blocksN ys (ys.length / 64)).ws ++ bytesC (restK ys rest ((b.drop p).take k)))) ++ [.int .i64 ((ys.length + k : Nat) : Int)] ++ [] := by simp [hashC]
      rw [e]; exact hB4_
    refine WL.nil ?_
    refine hK7 _ _ ?_; try clear hK7 K7
    refine CW.seq fun K8 hK8 => ?_
    refine CW.region ?_   -- region 4
    refine WL.val (Y.move rfl) (by decide) ?_   -- t36 := move t1
    refine WL.val (Y.move rfl) (by decide) ?_   -- t37 := move t4
    refine WL.val (Y.slice_lo Tryd.underlying26 rfl rfl sz0_uint8 rfl (by omega)) (by decide) ?_   -- t38 := slice 26 t36 t37 none none
    refine WL.val (Y.assign rfl) (by decide) ?_   -- t1 := assign t38
    refine WL.nil ?_
    refine hK8 _ _ ?_; try clear hK8 K8
    refine CW.seq fun K9 hK9 => ?_
    refine CW.region ?_   -- region 5
    refine WL.val (Y.move rfl) (by decide) ?_   -- t39 := move t0
    refine WL.val (Y.nilCheck rfl) (by decide) ?_   -- t40 := nilCheck t39
    refine WL.val (Y.fieldAddr fo_digestHash3 rfl) (by decide) ?_   -- t41 := fieldAddr 78 t40 3
    refine WL.val (Y.load1 Tryd.underlying3 rfl (Mem.digestHash3 hrl hB4.mem) rfl) (by decide) ?_   -- t42 := load 3 t41
    refine WL.val (Y.remN (q := 64) rfl rfl (by decide)) (by decide) ?_   -- t43 := binOp rem 3 t42 c(64:i64) 3
    refine WL.val (Y.eql rfl rfl) (by decide) ?_   -- t44 := binOp eql 3 t43 c(0:i64) 3
    refine WL.nil ?_
    refine hK9 _ _ ?_; try clear hK9 K9
    first | refine CW.condD rfl (fun ht10 => ?_) (fun ht10 => ?_) | refine CW.condND rfl (fun ht10 => ?_) (fun ht10 => ?_) | refine CW.condN rfl (fun ht10 => ?_) (fun ht10 => ?_) | refine CW.cond rfl (fun ht10 => ?_) (fun ht10 => ?_)
    · -- then
      refine CW.held (fun _ => True) (by kernel_rfl) 13 rfl fun w5 hx5 => ?_
      have hS : True := trivial
      have hB5 := hB4.ext hx5
      refine RH.take 0 (fun _ _ _ _ h => h) (by kernel_rfl) hS rfl (by kernel_rfl) (by kernel_rfl) (fun wq hq => Y.move rfl) (by decide) ?_   -- t45 := move t0
      refine RH.take 1 (fun _ _ _ _ h => h) (by kernel_rfl) hS rfl (by kernel_rfl) (by kernel_rfl) (fun wq hq => Y.move rfl) (by decide) ?_   -- t46 := move t0
      refine RH.take 2 (fun _ _ _ _ h => h) (by kernel_rfl) hS rfl (by kernel_rfl) (by kernel_rfl) (fun wq hq => Y.nilCheck rfl) (by decide) ?_   -- t47 := nilCheck t46
      refine RH.take 3 (fun _ _ _ _ h => h) (by kernel_rfl) hS rfl (by kernel_rfl) (by kernel_rfl) (fun wq hq => Y.fieldAddr fo_digestHash1 rfl) (by decide) ?_   -- t48 := fieldAddr 78 t47 1
      refine RH.take 5 (fun _ _ _ _ h => h) (by kernel_rfl) hS rfl (by kernel_rfl) (by kernel_rfl) (fun wq hq => Y.move rfl) (by decide) ?_   -- t50 := move t0
      refine RH.take 6 (fun _ _ _ _ h => h) (by kernel_rfl) hS rfl (by kernel_rfl) (by kernel_rfl) (fun wq hq => Y.nilCheck rfl) (by decide) ?_   -- t51 := nilCheck t50
      refine RH.take 7 (fun _ _ _ _ h => h) (by kernel_rfl) hS rfl (by kernel_rfl) (by kernel_rfl) (fun wq hq => Y.fieldAddr fo_digestHash2 rfl) (by decide) ?_   -- t52 := fieldAddr 78 t51 2
      refine RH.take 8 (fun _ _ _ _ h => h) (by kernel_rfl) hS rfl (by kernel_rfl) (by kernel_rfl) (fun wq hq => Y.slice_arr Tryd.underlying76 rfl sz_uint8) (by decide) ?_   -- t53 := slice 76 t52 none none none
      refine RH.one 4 (by kernel_rfl) ?_
      refine RS.val rfl (Y.load Tryd.underlying74 rfl (Mem.digestHash1 hB5.mem) (sz_digeststate _) rfl) (by decide) ⟨hS, ?_⟩   -- t49 := load 74 t48
      refine RH.one 9 (by kernel_rfl) ?_
      refine RS.call rfl (fun _ _ h => by cases h) Tryd.func36 rfl rfl rfl (mixed_any (blocksN ys (ys.length / 64)) _ (restK ys rest ((b.drop p).take k)) _ ⟨_, 64, 64, rfl, hrl, Nat.le_refl _, by decide, fun _ => ⟨_, rfl, Mem.digestHash2 hB5.mem⟩, fun h => by cases h⟩ hrl (((((hK.chg hC (fun h => hg0 h.symm)).ext hx2).chg hc3 (fun h => hg0 h.symm)).chg hc4 (fun h => hg0 h.symm)).ext hx5)) (by decide) fun v54 w6 hR6 => ?_   -- call F36(t49, t53) : 74,26
      obtain ⟨rfl, hx6⟩ := hR6
      have hB6 := hB5.ext hx6
      refine ⟨hS, ?_⟩
      refine RH.take 10 (fun _ _ _ _ h => h) (by kernel_rfl) hS rfl (by kernel_rfl) (by kernel_rfl) (fun wq hq => Y.nilCheck rfl) (by decide) ?_   -- t55 := nilCheck t45
      refine RH.take 11 (fun _ _ _ _ h => h) (by kernel_rfl) hS rfl (by kernel_rfl) (by kernel_rfl) (fun wq hq => Y.fieldAddr fo_digestHash1 rfl) (by decide) ?_   -- t56 := fieldAddr 78 t55 1
      refine RH.one 12 (by kernel_rfl) ?_
      refine RS.store rfl (g := g) (pre := [.bool true]) (old := wds (blocksN ys (ys.length / 64)).ws) (post := bytesC (restK ys rest ((b.drop p).take k)) ++ [.int .i64 ((ys.length + k : Nat) : Int)]) (new := wds (mixV (blocksN ys (ys.length / 64)) (restK ys rest ((b.drop p).take k))).ws) rfl (by rw [add_zero']; rfl) rfl rfl (by kernel_rfl) (by
        have e : hashC (blocksN ys (ys.length / 64)) (restK ys rest ((b.drop p).take k)) (ys.length + k) = [.bool true] ++ wds (blocksN ys (ys.length / 64)).ws ++ (bytesC (restK ys rest ((b.drop p).take k)) ++ [.int .i64 ((ys.length + k : Nat) : Int)]) := by simp [hashC]
        rw [← e]; exact hB6) (by first | (simp only [List.length_cons, List.length_nil, List.length_map, V8.ws]; done) | rfl) (wds_one) (fun w7 hc7 hB7_ => ?_)   -- store 74 t56 t54
      have hB7 : Blk w7 g TH (hashC (mixV (blocksN ys (ys.length / 64)) (restK ys rest ((b.drop p).take k))) (restK ys rest ((b.drop p).take k)) (ys.length + k)) := by
        have e : hashC (mixV (blocksN ys (ys.length / 64)) (restK ys rest ((b.drop p).take k))) (restK ys rest ((b.drop p).take k)) (ys.length + k) = [.bool true] ++ wds (mixV (blocksN ys (ys.length / 64)) (restK ys rest ((b.drop p).take k))).ws ++ (bytesC (restK ys rest ((b.drop p).take k)) ++ [.int .i64 ((ys.length + k : Nat) : Int)]) := by simp [hashC]
        rw [e]; exact hB7_
      refine ⟨hS, ?_⟩
      refine RH.done (by kernel_rfl) ?_
      obtain ⟨hR2, hS2⟩ := rest_full hR (ys := ((b.drop p).take k)) (by rw [hzl]; omega)
      have e1 : xs ++ b.take (p + k) = ys ++ ((b.drop p).take k) := by rw [List.take_add, ← List.append_assoc, ← hys]
      have e2 : (ys ++ ((b.drop p).take k)).length = ys.length + k := by rw [List.length_append, hzl]
      refine ⟨(p + k, restK ys rest ((b.drop p).take k), (if c = k then some a else (some a).map fun a => a.add (k * 1)), m - k, c - k), by show b.length - (p + k) < b.length - p; omega, (by repeat (first | exact Fr.le.nil | refine Fr.le.cons rfl ?_)), by show p + k ≤ b.length; omega, ?_, ?_, ?_, ?_, ((((hC.trans hx2 (fun _ _ f => f.elim)).trans hc3 (fun _ _ h => h)).trans hc4 (fun _ _ h => h)).trans (hx5.thenExt hx6) (fun _ _ f => f.elim)).trans hc7 (fun _ _ h => h)⟩
      · show By _ _ (b.drop (p + k))
        rw [← List.drop_drop]
        exact By.drop (((((hby.ext hx2).chg hc3 (fun h j hj => hbo (fun e => h (by rw [e, List.drop_nil])) j hj)).chg hc4 (fun h j hj => hbo (fun e => h (by rw [e, List.drop_nil])) j hj)).ext (hx5.thenExt hx6)).chg hc7 (fun h j hj => hbo (fun e => h (by rw [e, List.drop_nil])) j hj)) (by omega)
      · intro h0 j hj
        refine hbo h0 j ?_
        revert hj
        show (Value.slice (if c = k then some a else (some a).map fun a => a.add (k * 1)) (m - k) (c - k)).ownBlock = some j → _
        split <;> simp [Value.ownBlock, block_add]
      · show RestOf (xs ++ b.take (p + k)) _
        rw [e1]; exact hR2
      · show Blk _ g TH (hashC (blocksN (xs ++ b.take (p + k)) ((xs ++ b.take (p + k)).length / 64)) _ (xs ++ b.take (p + k)).length)
        rw [e1, hS2, e2]; exact hB7
    -- else
    refine CW.skip ?_
    obtain ⟨hR2, hS2⟩ := rest_part hR (ys := ((b.drop p).take k)) (by rw [hzl]; omega)
    have e1 : xs ++ b.take (p + k) = ys ++ ((b.drop p).take k) := by rw [List.take_add, ← List.append_assoc, ← hys]
    have e2 : (ys ++ ((b.drop p).take k)).length = ys.length + k := by rw [List.length_append, hzl]
    refine ⟨(p + k, restK ys rest ((b.drop p).take k), (if c = k then some a else (some a).map fun a => a.add (k * 1)), m - k, c - k), by show b.length - (p + k) < b.length - p; omega, (by repeat (first | exact Fr.le.nil | refine Fr.le.cons rfl ?_)), by show p + k ≤ b.length; omega, ?_, ?_, ?_, ?_, ((hC.trans hx2 (fun _ _ f => f.elim)).trans hc3 (fun _ _ h => h)).trans hc4 (fun _ _ h => h)⟩
    · show By _ _ (b.drop (p + k))
      rw [← List.drop_drop]
      exact By.drop (((hby.ext hx2).chg hc3 (fun h j hj => hbo (fun e => h (by rw [e, List.drop_nil])) j hj)).chg hc4 (fun h j hj => hbo (fun e => h (by rw [e, List.drop_nil])) j hj)) (by omega)
    · intro h0 j hj
      refine hbo h0 j ?_
      revert hj
      show (Value.slice (if c = k then some a else (some a).map fun a => a.add (k * 1)) (m - k) (c - k)).ownBlock = some j → _
      split <;> simp [Value.ownBlock, block_add]
    · show RestOf (xs ++ b.take (p + k)) _
      rw [e1]; exact hR2
    · show Blk _ g TH (hashC (blocksN (xs ++ b.take (p + k)) ((xs ++ b.take (p + k)).length / 64)) _ (xs ++ b.take (p + k)).length)
      rw [e1, hS2, e2]; exact hB4
  -- else
  refine CW.exit ?_   -- exit 0
  refine ⟨_, rfl, ?_⟩
  have hpe : p = b.length := by omega
  rw [hpe, List.take_of_length_le (Nat.le_refl _)] at hys
  subst hys
  exact ⟨rest, hB, hR, hC⟩
end Go.Proofs.YtkbmlnkoejlgmaaDoor
