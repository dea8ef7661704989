/- Parts of a proof: what its last text leans on. No condition. -/
import Derived.Test.YtfanmpbapabboaaDoorK10
set_option linter.unusedSimpArgs false
set_option linter.unusedVariables false
/- (*Hash).Write, walked. No condition. -/
namespace Go.Fw
open Go.RowKit
theorem By.drop {w : World} {a : Addr} {m c k : Nat} {bs : List UInt8} (h : By w (.slice (some a) m c) bs) (hk : k ≤ m) : By w (.slice (if c = k then some a else (some a).map fun a => a.add (k * 1)) (m - k) (c - k)) (bs.drop k) := by
 obtain ⟨hm, hmc, hcm⟩ := h.len
 refine ⟨_, _, _, rfl, by rw [List.length_drop, hm], by omega, by omega, fun h0 => ?_, fun h0 => ?_⟩
 ·
  obtain ⟨a', e, hma⟩ := h.mem.1 om_
  injection e with e; subst e
  rw [if_neg om_]
  refine ⟨_, rfl, ?_⟩
  rw [Nat.mul_one]
  have := hma.drop k
  rwa [bytesC, ← List.map_drop] at this
 ·
  split at h0 <;> simp at h0
theorem add_off (g i j : Nat) : (⟨g, i, none⟩ : Addr).add j = ⟨g, i + j, none⟩ := by unfold Addr.add; split <;> simp_all
end Go.Fw
namespace Go.Proofs.YtfanmpbapabboaaDoor
open Go.RowKit Go.Fw Go.Pl
theorem fo_digestHash0 : FieldOff Tryd.prog TH 0 0 := ⟨_, _, 1, Tryd.underlying91, rfl, sz_bool, by decide, rfl⟩
theorem fo_digestHash1 : FieldOff Tryd.prog TH 1 1 := ⟨_, _, 8, Tryd.underlying91, rfl, sz_digeststate beginV, by decide, rfl⟩
theorem fo_digestHash2 : FieldOff Tryd.prog TH 2 9 := ⟨_, _, 64, Tryd.underlying91, rfl, by kernel_rfl, by decide, rfl⟩
theorem fo_digestHash3 : FieldOff Tryd.prog TH 3 73 := ⟨_, _, 1, Tryd.underlying91, rfl, sz_int, by decide, rfl⟩
theorem hash_split (s : V8) (rest : List UInt8) (n i k : Nat) : hashC s rest n = (.bool true :: (wds s.ws ++ bytesC (rest.take i))) ++ bytesC ((rest.drop i).take k) ++ (bytesC (rest.drop (i + k)) ++ [.int .i64 (n : Int)]) := by
 have e : rest = rest.take i ++ ((rest.drop i).take k ++ rest.drop (i + k)) := by rw [← List.drop_drop, List.take_append_drop, List.take_append_drop]
 conv => lhs; rw [e]
 simp only [hashC, bytesC_append, List.append_assoc, List.cons_append]
theorem hash_join (s : V8) (xs rest ys : List UInt8) (n : Nat) : hashC s (restK xs rest ys) n = (.bool true :: (wds s.ws ++ bytesC (rest.take (xs.length % 64)))) ++ bytesC ys ++ (bytesC (rest.drop (xs.length % 64 + ys.length)) ++ [.int .i64 (n : Int)]) := by
 simp only [hashC, restK, bytesC_append, List.append_assoc, List.cons_append]
set_option maxRecDepth 20000 in
set_option maxHeartbeats 1000000 in
theorem write_any (g : Nat) (xs rest : List UInt8) (u : Value) (b : List UInt8) (w : World) (hB : Blk w g TH (hashC (blocksN xs (xs.length / 64)) rest xs.length)) (hR : RestOf xs rest) (hb : By w u b) (hbo : b ≠ [] → ∀ k, u.ownBlock = some k → k ≠ g) (hK : Mem w ⟨0, 0, none⟩ (wds keysL)) (hg0 : g ≠ 0) (hN : xs.length + b.length ≤ 4611686018427387904) : Calls Tryd.prog 18 #[.pointer (some ⟨g, 0, none⟩), u] w (Ret fun v w' => ∃ rest', Blk w' g TH (hashC (blocksN (xs ++ b) ((xs ++ b).length / 64)) rest' (xs ++ b).length) ∧ RestOf (xs ++ b) rest' ∧ Chg (· = g) w w') := by
 obtain ⟨A, m, c, rfl⟩ := hb.lens
 refine calls_of_CW 57 [] [(0, .pointer (some ⟨g, 0, none⟩)), (1, .slice A m c)] Tryd.func18 rfl rfl rfl (by simp) args2 ?_
 refine CW.seq fun K1 hK1 => ?_
 refine CW.seq_test 13 (False) ?_ ?_
 ·
  refine CW.region ?_
  refine WL.m rfl ?_
  refine WL.v (Y.eql_digestHash rfl rfl) ?_
  refine WL.m rfl ?_
  (first | refine WL.casesD (d := 7) rfl ?_ ?_ | refine WL.casesND (d := 7) rfl ?_ ?_ | refine WL.cases (d := 7) rfl ?_ ?_) <;> intro hg7
  ·
   -- t7 = T
   refine WL.o rfl rfl ?_
   refine WL.o rfl rfl ?_
   refine WL.o rfl rfl ?_
   refine WL.o rfl rfl ?_
   refine WL.o rfl rfl ?_
   refine WL.v (Y.pick rfl rfl) ?_
   refine WL.nil ⟨⟨_, rfl, ?_⟩, rfl, Fr.okp⟩
   exact tst_ok
  ·
   -- t7 = F
   refine WL.g rfl rfl (Y.move rfl) ?_
   refine WL.g rfl rfl (Y.nilCheck rfl) ?_
   refine WL.g rfl rfl (Y.fieldAddr fo_digestHash0 rfl) ?_
   refine WL.g rfl rfl (Y.load1 Tryd.underlying4 rfl (Mem.digestHash0 hB.mem) rfl) ?_
   refine WL.g rfl rfl (Y.not rfl) ?_
   refine WL.v (Y.pick rfl rfl) ?_
   refine WL.nil ⟨⟨_, rfl, ?_⟩, rfl, Fr.okp⟩
   exact tst_ok
 (first | refine cd_ rfl ?_ ?_ | refine ce_ rfl ?_ ?_ | refine cn_ rfl ?_ ?_ | refine cb_ rfl ?_ ?_) <;> intro ht2
 ·
  -- then
  refine CW.ret ⟨_, rfl, ?_⟩
  exact False.elim (by assumption)
 refine CW.skip ?_
 refine hK1 _ _ ?_; try clear hK1
 refine CW.block ?_
 refine CW.loop (X := Nat × List UInt8 × Option Addr × Nat × Nat) (fun x => [(0, .pointer (some ⟨g, 0, none⟩)), (1, .slice x.2.2.1 x.2.2.2.1 x.2.2.2.2)]) (fun x w0 => x.1 ≤ b.length ∧ By w0 (.slice x.2.2.1 x.2.2.2.1 x.2.2.2.2) (b.drop x.1) ∧ (b ≠ [] → ∀ k, (Value.slice x.2.2.1 x.2.2.2.1 x.2.2.2.2).ownBlock = some k → k ≠ g) ∧ RestOf (xs ++ b.take x.1) x.2.1 ∧ Blk w0 g TH (hashC (blocksN (xs ++ b.take x.1) ((xs ++ b.take x.1).length / 64)) x.2.1 (xs ++ b.take x.1).length) ∧ Chg (· = g) w w0) (fun x => b.length - x.1) (0, rest, A, m, c) Fr.ok ⟨Nat.zero_le _, by simpa using hb, hbo, by simpa using hR, by simpa using hB, Chg.refl⟩ ?_
 intro x w1 hl1
 clear hB hR hb hbo
 obtain ⟨p, rest, A, m, c⟩ := x
 dsimp only at hl1 ⊢
 obtain ⟨hp, hby, hbo, hR, hB, hC⟩ := hl1
 obtain ⟨hm, hmc, hcm⟩ := hby.len
 unfold maxLen at hcm
 rw [List.length_drop] at hm
 obtain ⟨ys, hys⟩ : ∃ ys, ys = xs ++ b.take p := ⟨_, rfl⟩
 rw [← hys] at hR hB
 have hyl : ys.length = xs.length + p := by rw [hys, List.length_append, List.length_take]; omega
 refine CW.seq fun K3 hK3 => ?_
 refine CW.sr fun K4 hK4 => ?_
 refine WL.m rfl ?_
 refine WL.v (Y.len_slice Tryd.underlying32 rfl) ?_
 refine WL.v (Y.gtr rfl rfl) ?_
 refine WL.nil (hK4 _ _ ?_); try clear hK4
 (first | refine cd_ rfl ?_ ?_ | refine ce_ rfl ?_ ?_ | refine cn_ rfl ?_ ?_ | refine cb_ rfl ?_ ?_) <;> intro ht5
 ·
  -- then
  refine CW.skip ?_
  refine hK3 _ _ ?_; try clear hK3
  refine CW.block ?_
  refine CW.seq fun K6 hK6 => ?_
  obtain ⟨a, rfl, hma⟩ := hby.mem.1 om_
  obtain ⟨k, hk⟩ : ∃ k, k = min m (64 - ys.length % 64) := ⟨_, rfl⟩
  have hzl : ((b.drop p).take k).length = k := by rw [List.length_take, List.length_drop]; omega
  refine CW.held (fun _ => True) kr_ 12 rfl fun w2 hx2 => ?_
  have hS : True := trivial
  have hB := hB.ext hx2
  have hma := hma.ext hx2
  refine RH.tk 0 hS rfl (fun wq hq => Y.move rfl) ?_
  refine RH.tk 1 hS rfl (fun wq hq => Y.nilCheck rfl) ?_
  refine RH.tk 2 hS rfl (fun wq hq => Y.fieldAddr fo_digestHash2 rfl) ?_
  refine RH.tk 3 hS rfl (fun wq hq => Y.move rfl) ?_
  refine RH.tk 4 hS rfl (fun wq hq => Y.nilCheck rfl) ?_
  refine RH.tk 5 hS rfl (fun wq hq => Y.fieldAddr fo_digestHash3 rfl) ?_
  refine RH.tk 9 hS rfl (fun wq hq => Y.move rfl) ?_
  refine RH.one 6 kr_ ?_
  refine RS.val rfl (Y.load1 Tryd.underlying3 rfl (Mem.digestHash3 hR.1 hB.mem) rfl) de_ ⟨hS, ?_⟩
  refine RH.tk 7 hS rfl (fun wq hq => Y.remN (q := 64) rfl rfl de_) ?_
  refine RH.tk 8 hS rfl (fun wq hq => Y.slice_arr_lo Tryd.underlying89 rfl rfl sz_uint8 rfl om_) ?_
  refine RH.one 10 kr_ ?_
  refine RS.st rfl (St.copy (pre := .bool true :: (wds (blocksN ys (ys.length / 64)).ws ++ bytesC (rest.take (ys.length % 64)))) (old := bytesC ((rest.drop (ys.length % 64)).take k)) (post := bytesC (rest.drop (ys.length % 64 + k)) ++ [.int .i64 (ys.length : Int)]) (news := bytesC ((b.drop p).take k)) Tryd.underlying32 sz_uint8 rfl (by
   rw [add_zero', add_off]
   congr 1
   rw [List.length_cons, List.length_append, bytesC_length, List.length_take, hR.1]
   show _ = 8 + _ + 1
   omega) rfl (by have := hma.take k; rwa [bytesC, ← List.map_take] at this) (by rw [bytesC_length, hzl, hk]) (by rw [← hash_split]; exact hB) (by rw [bytesC_length, bytesC_length, hzl, List.length_take, List.length_drop, hR.1]; omega) one_bytesC) de_ fun v27 w3 hR3 => ?_
  obtain ⟨rfl, hc3, hB3⟩ := hR3
  rw [← hk]
  have hB3 : Blk w3 g TH (hashC (blocksN ys (ys.length / 64)) (restK ys rest ((b.drop p).take k)) ys.length) := by rw [hash_join, hzl]; exact hB3
  have hrl : (restK ys rest ((b.drop p).take k)).length = 64 := restK_len hR om_
  refine ⟨hS, ?_⟩
  refine RH.tk 11 hS rfl (fun wq hq => Y.assign rfl) ?_
  refine RH.done kr_ ?_
  refine hK6 _ _ ?_; try clear hK6
  refine CW.sr fun K7 hK7 => ?_
  refine WL.m rfl ?_
  refine WL.v (Y.nilCheck rfl) ?_
  refine WL.v (Y.fieldAddr fo_digestHash3 rfl) ?_
  refine WL.v (Y.load1 Tryd.underlying3 rfl (Mem.digestHash3 hrl hB3.mem) rfl) ?_
  refine WL.m rfl ?_
  refine WL.v (Y.add rfl rfl o2_) ?_
  refine WL.v (Y.nilCheck rfl) ?_
  refine WL.v (Y.fieldAddr fo_digestHash3 rfl) ?_
  refine WL.store (g := g) (pre := .bool true :: (wds (blocksN ys (ys.length / 64)).ws ++ bytesC (restK ys rest ((b.drop p).take k)))) (old := [.int .i64 (ys.length : Int)]) (post := []) (new := [.int .i64 ((ys.length + k : Nat) : Int)]) rfl (by
   rw [add_zero']
   congr 1
   rw [List.length_cons, List.length_append, bytesC_length, hrl]
   rfl) rfl rfl kr_ (by
   have e : hashC (blocksN ys (ys.length / 64)) (restK ys rest ((b.drop p).take k)) ys.length = (.bool true :: (wds (blocksN ys (ys.length / 64)).ws ++ bytesC (restK ys rest ((b.drop p).take k)))) ++ [.int .i64 (ys.length : Int)] ++ [] := by simp [hashC]
   rw [← e]; exact hB3) (by first | (simp only [List.length_cons, List.length_nil, List.length_map, List.length_replicate, V8.ws, digC_length]; done) | rfl | (simp [digC_length, opC_length]; done) | (simp only [digC_length, opC_length]; omega)) (one1 rfl) (fun w4 hc4 hB4_ => ?_)
  have hB4 : Blk w4 g TH (hashC (blocksN ys (ys.length / 64)) (restK ys rest ((b.drop p).take k)) (ys.length + k)) := by
   have e : hashC (blocksN ys (ys.length / 64)) (restK ys rest ((b.drop p).take k)) (ys.length + k) = (.bool true :: (wds (blocksN ys (ys.length / 64)).ws ++ bytesC (restK ys rest ((b.drop p).take k)))) ++ [.int .i64 ((ys.length + k : Nat) : Int)] ++ [] := by simp [hashC]
   rw [e]; exact hB4_
  refine WL.nil (hK7 _ _ ?_); try clear hK7
  refine CW.sr fun K8 hK8 => ?_
  refine WL.m rfl ?_
  refine WL.m rfl ?_
  refine WL.v (Y.slice_lo Tryd.underlying32 rfl rfl sz0_uint8 rfl om_) ?_
  refine WL.a rfl ?_
  refine WL.nil (hK8 _ _ ?_); try clear hK8
  refine CW.sr fun K9 hK9 => ?_
  refine WL.m rfl ?_
  refine WL.v (Y.nilCheck rfl) ?_
  refine WL.v (Y.fieldAddr fo_digestHash3 rfl) ?_
  refine WL.v (Y.load1 Tryd.underlying3 rfl (Mem.digestHash3 hrl hB4.mem) rfl) ?_
  refine WL.v (Y.remN (q := 64) rfl rfl de_) ?_
  refine WL.v (Y.eql rfl rfl) ?_
  refine WL.nil (hK9 _ _ ?_); try clear hK9
  (first | refine cd_ rfl ?_ ?_ | refine ce_ rfl ?_ ?_ | refine cn_ rfl ?_ ?_ | refine cb_ rfl ?_ ?_) <;> intro ht10
  ·
   -- then
   refine CW.held (fun _ => True) kr_ 13 rfl fun w5 hx5 => ?_
   have hS : True := trivial
   have hB5 := hB4.ext hx5
   refine RH.tk 0 hS rfl (fun wq hq => Y.move rfl) ?_
   refine RH.tk 1 hS rfl (fun wq hq => Y.move rfl) ?_
   refine RH.tk 2 hS rfl (fun wq hq => Y.nilCheck rfl) ?_
   refine RH.tk 3 hS rfl (fun wq hq => Y.fieldAddr fo_digestHash1 rfl) ?_
   refine RH.tk 5 hS rfl (fun wq hq => Y.move rfl) ?_
   refine RH.tk 6 hS rfl (fun wq hq => Y.nilCheck rfl) ?_
   refine RH.tk 7 hS rfl (fun wq hq => Y.fieldAddr fo_digestHash2 rfl) ?_
   refine RH.tk 8 hS rfl (fun wq hq => Y.slice_arr Tryd.underlying89 rfl sz_uint8) ?_
   refine RH.one 4 kr_ ?_
   refine RS.val rfl (Y.load Tryd.underlying87 rfl (Mem.digestHash1 hB5.mem) (sz_digeststate _) rfl) de_ ⟨hS, ?_⟩
   refine RH.one 9 kr_ ?_
   refine RS.call rfl (fun _ _ h => by cases h) Tryd.func37 rfl rfl rfl (mixed_any (blocksN ys (ys.length / 64)) _ (restK ys rest ((b.drop p).take k)) _ ⟨_, 64, 64, rfl, hrl, Nat.le_refl _, by decide, fun _ => ⟨_, rfl, Mem.digestHash2 hB5.mem⟩, fun h => by cases h⟩ hrl (((((hK.chg hC (fun h => hg0 h.symm)).ext hx2).chg hc3 (fun h => hg0 h.symm)).chg hc4 (fun h => hg0 h.symm)).ext hx5)) de_ fun v54 w6 hR6 => ?_
   obtain ⟨rfl, hx6⟩ := hR6
   have hB6 := hB5.ext hx6
   refine ⟨hS, ?_⟩
   refine RH.tk 10 hS rfl (fun wq hq => Y.nilCheck rfl) ?_
   refine RH.tk 11 hS rfl (fun wq hq => Y.fieldAddr fo_digestHash1 rfl) ?_
   refine RH.one 12 kr_ ?_
   refine RS.store rfl (g := g) (pre := [.bool true]) (old := wds (blocksN ys (ys.length / 64)).ws) (post := bytesC (restK ys rest ((b.drop p).take k)) ++ [.int .i64 ((ys.length + k : Nat) : Int)]) (new := wds (mixV (blocksN ys (ys.length / 64)) (restK ys rest ((b.drop p).take k))).ws) rfl (by rw [add_zero']; rfl) rfl rfl kr_ (by
    have e : hashC (blocksN ys (ys.length / 64)) (restK ys rest ((b.drop p).take k)) (ys.length + k) = [.bool true] ++ wds (blocksN ys (ys.length / 64)).ws ++ (bytesC (restK ys rest ((b.drop p).take k)) ++ [.int .i64 ((ys.length + k : Nat) : Int)]) := by simp [hashC]
    rw [← e]; exact hB6) (by first | (simp only [List.length_cons, List.length_nil, List.length_map, V8.ws]; done) | rfl) (wds_one) (fun w7 hc7 hB7_ => ?_)
   have hB7 : Blk w7 g TH (hashC (mixV (blocksN ys (ys.length / 64)) (restK ys rest ((b.drop p).take k))) (restK ys rest ((b.drop p).take k)) (ys.length + k)) := by
    have e : hashC (mixV (blocksN ys (ys.length / 64)) (restK ys rest ((b.drop p).take k))) (restK ys rest ((b.drop p).take k)) (ys.length + k) = [.bool true] ++ wds (mixV (blocksN ys (ys.length / 64)) (restK ys rest ((b.drop p).take k))).ws ++ (bytesC (restK ys rest ((b.drop p).take k)) ++ [.int .i64 ((ys.length + k : Nat) : Int)]) := by simp [hashC]
    rw [e]; exact hB7_
   refine ⟨hS, ?_⟩
   refine RH.done kr_ ?_
   obtain ⟨hR2, hS2⟩ := rest_full hR (ys := ((b.drop p).take k)) (by rw [hzl]; omega)
   have e1 : xs ++ b.take (p + k) = ys ++ ((b.drop p).take k) := by rw [List.take_add, ← List.append_assoc, ← hys]
   have e2 : (ys ++ ((b.drop p).take k)).length = ys.length + k := by rw [List.length_append, hzl]
   refine ⟨(p + k, restK ys rest ((b.drop p).take k), (if c = k then some a else (some a).map fun a => a.add (k * 1)), m - k, c - k), by show b.length - (p + k) < b.length - p; omega, Fr.ok, by show p + k ≤ b.length; omega, ?_, ?_, ?_, ?_, ((((hC.trans hx2 (fun _ _ f => f.elim)).trans hc3 (fun _ _ h => h)).trans hc4 (fun _ _ h => h)).trans (hx5.thenExt hx6) (fun _ _ f => f.elim)).trans hc7 (fun _ _ h => h)⟩
   ·
    show By _ _ (b.drop (p + k))
    rw [← List.drop_drop]
    exact By.drop (((((hby.ext hx2).chg hc3 (fun h j hj => hbo (fun e => h (by rw [e, List.drop_nil])) j hj)).chg hc4 (fun h j hj => hbo (fun e => h (by rw [e, List.drop_nil])) j hj)).ext (hx5.thenExt hx6)).chg hc7 (fun h j hj => hbo (fun e => h (by rw [e, List.drop_nil])) j hj)) om_
   ·
    intro h0 j hj
    refine hbo h0 j ?_
    revert hj
    show (Value.slice (if c = k then some a else (some a).map fun a => a.add (k * 1)) (m - k) (c - k)).ownBlock = some j → _
    split <;> simp [Value.ownBlock, block_add]
   ·
    show RestOf (xs ++ b.take (p + k)) _
    rw [e1]; exact hR2
   ·
    show Blk _ g TH (hashC (blocksN (xs ++ b.take (p + k)) ((xs ++ b.take (p + k)).length / 64)) _ (xs ++ b.take (p + k)).length)
    rw [e1, hS2, e2]; exact hB7
  refine CW.skip ?_
  obtain ⟨hR2, hS2⟩ := rest_part hR (ys := ((b.drop p).take k)) (by rw [hzl]; omega)
  have e1 : xs ++ b.take (p + k) = ys ++ ((b.drop p).take k) := by rw [List.take_add, ← List.append_assoc, ← hys]
  have e2 : (ys ++ ((b.drop p).take k)).length = ys.length + k := by rw [List.length_append, hzl]
  refine ⟨(p + k, restK ys rest ((b.drop p).take k), (if c = k then some a else (some a).map fun a => a.add (k * 1)), m - k, c - k), by show b.length - (p + k) < b.length - p; omega, Fr.ok, by show p + k ≤ b.length; omega, ?_, ?_, ?_, ?_, ((hC.trans hx2 (fun _ _ f => f.elim)).trans hc3 (fun _ _ h => h)).trans hc4 (fun _ _ h => h)⟩
  ·
   show By _ _ (b.drop (p + k))
   rw [← List.drop_drop]
   exact By.drop (((hby.ext hx2).chg hc3 (fun h j hj => hbo (fun e => h (by rw [e, List.drop_nil])) j hj)).chg hc4 (fun h j hj => hbo (fun e => h (by rw [e, List.drop_nil])) j hj)) om_
  ·
   intro h0 j hj
   refine hbo h0 j ?_
   revert hj
   show (Value.slice (if c = k then some a else (some a).map fun a => a.add (k * 1)) (m - k) (c - k)).ownBlock = some j → _
   split <;> simp [Value.ownBlock, block_add]
  ·
   show RestOf (xs ++ b.take (p + k)) _
   rw [e1]; exact hR2
  ·
   show Blk _ g TH (hashC (blocksN (xs ++ b.take (p + k)) ((xs ++ b.take (p + k)).length / 64)) _ (xs ++ b.take (p + k)).length)
   rw [e1, hS2, e2]; exact hB4
 refine CW.exit ?_
 refine ⟨_, rfl, ?_⟩
 have hpe : p = b.length := by omega
 rw [hpe, List.take_of_length_le (Nat.le_refl _)] at hys
 subst hys
 exact ⟨rest, hB, hR, hC⟩
end Go.Proofs.YtfanmpbapabboaaDoor
/- Rules for (*Hash).Sum: make, an array value's index, a Hash copied. No condition. -/
namespace Go.Proofs.YtfanmpbapabboaaDoor
open Go.RowKit Go.Fw Go.Pl
theorem run_make128 (w : World) : (Instr.makeSlice 32 (.int .i64 1) (.int .i64 128)).run Tryd.prog w = .ok (.slice (some ⟨w.heap.size, 0, none⟩) 1 128) (w.alloc (.cells (bytesC (List.replicate 128 0)).toArray 5)) := by
 kernel_rfl
theorem hashC_len {s : V8} {rest : List UInt8} {k : Nat} (h : rest.length = 64) : (hashC s rest k).length = 74 := by
 rw [hashC, List.length_cons, List.length_append, List.length_append, bytesC_length, h]; rfl
theorem sz_digestHash {s : V8} {rest : List UInt8} {k : Nat} (h : rest.length = 64) : (Tryd.prog.info? TH).map (·.size) = some (hashC s rest k).length := by
 rw [hashC_len h]; kernel_rfl
def hashZ : List Value := .bool false :: (wds (List.replicate 8 0) ++ (bytesC (List.replicate 64 0) ++ [.int .i64 0]))
theorem info_hash : ∃ i : TypeInfo, Tryd.prog.info? TH = some i ∧ i.zero = some (.agg hashZ.toArray) ∧ i.size = 74 := by
 have h : (Tryd.prog.info? TH).map (fun i => (i.zero, i.size)) = some (some (.agg hashZ.toArray), 74) := by kernel_rfl
 cases hi : Tryd.prog.info? TH with
 | none => simp [hi] at h
 | some i => simp [hi] at h; exact ⟨i, rfl, h.1, h.2⟩
theorem one_hash {s : V8} {rest : List UInt8} {k : Nat} : ∀ u ∈ hashC s rest k, u.oneCell' = true := by
 intro u hu
 simp only [hashC, List.mem_cons, List.mem_append, List.not_mem_nil, or_false] at hu
 rcases hu with rfl | hu | hu | rfl
 ·
  rfl
 ·
  exact wds_one u hu
 ·
  exact one_bytesC u hu
 ·
  rfl
theorem as_digestHash {n : NN} {Φ : Exit → Fr → World → Prop} {fr : Fr} {w : World} {ops : Array Oper} {rest : List Oper} {d : Nat} {x : Operand} {ty ty' : TypeId} {pos pos' : String} {aft aft' : Array Edge} {s : V8} {rs : List UInt8} {k : Nat}
  (hrl : rs.length = 64) (hx : ev fr x = some (.agg (hashC s rs k).toArray)) (hxd : x ≠ .tmp d) (hd : d < n.1)
  (h : ∀ g w', Ext w w' → w.heap.size ≤ g → Blk w' g TH (hashC s rs k) → WL Tryd.prog ops n Φ rest ((d, .pointer (some ⟨g, 0, none⟩)) :: fr) w') :
  WL Tryd.prog ops n Φ (⟨some d, .alloc TH, ty, pos, aft, none⟩ :: ⟨none, .store TH (.tmp d) x, ty', pos', aft', none⟩ :: rest) fr w := by
 obtain ⟨i, hi, hz, hs⟩ := info_hash
 exact WL.allocStore (cs := hashC s rs k) (zs := hashZ) hi hz rfl (by rw [hs, hashC_len hrl]) (by rw [hashC_len hrl]; rfl) hx hxd rfl one_hash hd h
section
variable {n : NN} {fr : Fr} {w : World} {ty : TypeId} {x y : Operand} {t' : TypeId}
theorem cells128 : bytesC [0] ++ bytesC (List.replicate 127 0) = bytesC (List.replicate 128 0) := by
 rw [← bytesC_append, List.singleton_append, ← List.replicate_succ]
theorem St.make128 : St Tryd.prog n fr (.makeSlice 32 (.const (.int .i64 1)) (.const (.int .i64 128))) ty w (fun v w' => ∃ g, v = .slice (some ⟨g, 0, none⟩) 1 128 ∧ w.heap.size ≤ g ∧ Own w' TB 1 v (bytesC [0]) ∧ Ext w w') := fun a o' ho hty ha => by
 refine ⟨.slice (some ⟨w.heap.size, 0, none⟩) 1 128, w.alloc (.cells (bytesC (List.replicate 128 0)).toArray 5), ?_, w.heap.size, rfl, Nat.le_refl _, .inr ⟨w.heap.size, 1, 128, bytesC (List.replicate 127 0), (0, 0), rfl, ?_, by rw [bytesC_length]; rfl, by decide, by decide, ?_, fun o h => by omega⟩, Chg.alloc _⟩
 ·
  simp only [execOp, ho, Act.eval, Sem.run_bind, run_make128]
  rfl
 ·
  rw [cells128]; exact heap_alloc_new w _
 ·
  rw [cells128, bytesC_length, List.length_replicate]
theorem Y.index_ws {v : V8} {i : Nat} {z : UInt32} (hx : ev fr x = some (stV v)) (hy : ev fr y = some (.int .i64 (i : Int))) (hv : v.ws[i]? = some z) : Yw Tryd.prog n fr (.index TS x y) ty w (wd z) w := fun b o' ho _ ha => by
 have hlt : i < 8 := (List.getElem?_eq_some_iff.1 hv).1
 have h2 : (part 85 (wds v.ws).toArray i).run Tryd.prog w = .ok (wd z) w := by
  simp [part, Tryd.isAgg85, hv]
 simp [execOp, ho, ha.ev hx, ha.ev hy, Instr.index, asIntOf, run_underlying Tryd.underlying87, stV, hlt, fw_sizeOf sz_u32, h2]
end
end Go.Proofs.YtfanmpbapabboaaDoor
/- (*Hash).Sum, walked. No condition. -/
namespace Go.Pl
open Go.Fw
theorem digB_at (v : V8) (x j : Nat) (hj : j < 4) : digB v (4 * x + j) = (v.ws.getD x 0 >>> UInt32.ofNat (24 - 8 * j)).toUInt8 := by
 rw [digB, show (4 * x + j) / 4 = x by omega, show (4 * x + j) % 4 = j by omega]
theorem digB_at0 (v : V8) (x : Nat) : digB v (4 * x) = (v.ws.getD x 0 >>> UInt32.ofNat 24).toUInt8 := digB_at v x 0 de_
theorem digB_at3 (v : V8) (x : Nat) : digB v (4 * x + 3) = (v.ws.getD x 0).toUInt8 := by
 rw [digB_at v x 3 de_]
 congr 1
theorem dig_put (v : V8) {i : Nat} (h : i < 32) : bytesC ((List.range i).map (digB v) ++ List.replicate (32 - i) 0) = bytesC ((List.range i).map (digB v)) ++ [bc 0] ++ bytesC (List.replicate (31 - i) 0) := dig_split h _
theorem dig_new (v : V8) {i : Nat} : bytesC ((List.range (i + 1)).map (digB v) ++ List.replicate (32 - (i + 1)) 0) = bytesC ((List.range i).map (digB v)) ++ [bc (digB v i)] ++ bytesC (List.replicate (31 - i) 0) := by
 rw [List.range_succ, List.map_append, show 32 - (i + 1) = 31 - i by omega, bytesC_append, bytesC_append]; rfl
end Go.Pl
namespace Go.Proofs.YtfanmpbapabboaaDoor
open Go.RowKit Go.Fw Go.Pl
set_option maxRecDepth 20000 in
set_option maxHeartbeats 2000000 in
theorem hsum_any (g : Nat) (xs rest : List UInt8) (w : World) (hB : Blk w g TH (hashC (blocksN xs (xs.length / 64)) rest xs.length)) (hR : RestOf xs rest) (hK : Mem w ⟨0, 0, none⟩ (wds keysL)) (hN : xs.length ≤ 140737488351232) : Calls Tryd.prog 19 #[.pointer (some ⟨g, 0, none⟩)] w (Ret fun v w' => v = digV (shaD xs) ∧ Ext w w') := by
 have hk0 : (0 : Nat) < w.heap.size := hK.lt (fun h => by cases h)
 have hpz : padZ xs.length < 64 := by unfold padZ; omega
 obtain ⟨id, hid, hzd, _⟩ := info_apiDigest
 refine calls_of_CWc 92 2 32 [(0, .pointer (some ⟨g, 0, none⟩))] Tryd.func19 rfl rfl rfl Tryd.underlying30 rfl kr_ (by simp) args1 ?_
 have hE : Ext w w := Chg.refl
 refine CW.sr fun K1 hK1 => ?_
 refine WL.alloc (hid) (hzd) rfl de_ fun g2 w1 hx1 hg2 hB2 => ?_
 have hlt2 := hB2.lt; have hz1 := hx1.size
 have hM2 := hB2.mem; have hz1 := hx1.size; have hE := hE.thenExt hx1
 refine WL.nil (hK1 _ _ ?_); try clear hK1
 refine CW.sr fun K2 hK2 => ?_
 refine WL.alloc (hid) (hzd) rfl de_ fun g3 w2 hx2 hg3 hB3 => ?_
 have hlt3 := hB3.lt; have hz2 := hx2.size
 have hM3 := hB3.mem; have hz2 := hx2.size; have hE := hE.thenExt hx2; have hB2 := hB2.ext hx2
 refine WL.nil (hK2 _ _ ?_); try clear hK2
 refine CW.seq fun K3 hK3 => ?_
 refine CW.seq_test 17 (False) ?_ ?_
 ·
  refine CW.region ?_
  refine WL.m rfl ?_
  refine WL.v (Y.eql_digestHash rfl rfl) ?_
  refine WL.m rfl ?_
  (first | refine WL.casesD (d := 11) rfl ?_ ?_ | refine WL.casesND (d := 11) rfl ?_ ?_ | refine WL.cases (d := 11) rfl ?_ ?_) <;> intro hg11
  ·
   -- t11 = T
   refine WL.o rfl rfl ?_
   refine WL.o rfl rfl ?_
   refine WL.o rfl rfl ?_
   refine WL.o rfl rfl ?_
   refine WL.o rfl rfl ?_
   refine WL.v (Y.pick rfl rfl) ?_
   refine WL.nil ⟨⟨_, rfl, ?_⟩, rfl, Fr.okp⟩
   exact tst_ok
  ·
   -- t11 = F
   refine WL.g rfl rfl (Y.move rfl) ?_
   refine WL.g rfl rfl (Y.nilCheck rfl) ?_
   refine WL.g rfl rfl (Y.fieldAddr fo_digestHash0 rfl) ?_
   refine WL.g rfl rfl (Y.load1 Tryd.underlying4 rfl (Mem.digestHash0 (hB.ext hE).mem) rfl) ?_
   refine WL.g rfl rfl (Y.not rfl) ?_
   refine WL.v (Y.pick rfl rfl) ?_
   refine WL.nil ⟨⟨_, rfl, ?_⟩, rfl, Fr.okp⟩
   exact tst_ok
 (first | refine cd_ rfl ?_ ?_ | refine ce_ rfl ?_ ?_ | refine cn_ rfl ?_ ?_ | refine cb_ rfl ?_ ?_) <;> intro ht4
 ·
  -- then
  refine CW.sr fun K5 hK5 => ?_
  refine WL.v (Y.load Tryd.underlying30 rfl hB3.mem (sz_apiDigest _) rfl) ?_
  refine WL.store (g := g2) (pre := []) (old := digC Dig.zero) (post := []) (new := digC Dig.zero) rfl rfl rfl rfl (sz_apiDigest _) (by simpa using hB2) (by first | (simp only [List.length_cons, List.length_nil, List.length_map, List.length_replicate, V8.ws, digC_length]; done) | rfl | (simp [digC_length, opC_length]; done) | (simp only [digC_length, opC_length]; omega)) (one_digC) (fun w3 hc3 hB3_ => ?_)
  have hz3 := hc3.size; have hE := hE.step hc3 (fun k h => by omega); have hB3 := hB3.chg hc3 no_
  skip
  refine WL.nil (hK5 _ _ ?_); try clear hK5
  refine CW.ret ?_
  exact False.elim (by assumption)
 refine CW.skip ?_
 refine hK3 _ _ ?_; try clear hK3
 refine CW.sr fun K6 hK6 => ?_
 refine WL.m rfl ?_
 refine WL.v (Y.nilCheck rfl) ?_
 refine WL.v (Y.load Tryd.underlying91 rfl (hB.ext hE).mem (sz_digestHash hR.1) rfl) ?_
 refine as_digestHash hR.1 rfl (by simp) de_ fun g4 w4 hx4 hg4 hB4 => ?_
 have hlt4 := hB4.lt; have hz4 := hx4.size
 have hM4 := hB4.mem; have hz4 := hx4.size; have hE := hE.thenExt hx4; have hB2 := hB2.ext hx4; have hB3 := hB3.ext hx4
 refine WL.nil (hK6 _ _ ?_); try clear hK6
 refine CW.sr fun K7 hK7 => ?_
 refine WL.st (St.make128) de_ fun v22 w5 hR5 => ?_
 obtain ⟨g22, rfl, hg22, hO, hx5⟩ := hR5
 have hz5 := hx5.size
 have hE := hE.thenExt hx5
 have hB2 := hB2.ext hx5
 have hB3 := hB3.ext hx5
 have hB4 := hB4.ext hx5
 refine WL.a rfl ?_
 refine WL.nil (hK7 _ _ ?_); try clear hK7
 refine CW.sr fun K8 hK8 => ?_
 refine WL.m rfl ?_
 refine WL.v (Y.indexAddrN Tryd.underlying32 rfl rfl sz0_uint8 (i := 0) de_) ?_
 refine WL.storeO (g := g22) (pre := []) (old := bytesC [0]) (post := []) (new := bytesC [128]) rfl (by rw [add_zero']; rfl) rfl rfl kr_ (by simpa using hO) (by first | (simp only [List.length_cons, List.length_nil, List.length_map, List.length_replicate, V8.ws, digC_length]; done) | rfl | (simp [digC_length, opC_length]; done) | (simp only [digC_length, opC_length]; omega)) (one_bytesC) (fun w6 hc6 hB6_ => ?_)
 have hz6 := hc6.size; have hE := hE.step hc6 (fun k h => by omega); have hB2 := hB2.chg hc6 no_; have hB3 := hB3.chg hc6 no_; have hB4 := hB4.chg hc6 no_
 have hO : Own w6 TB 1 (.slice (some ⟨g22, 0, none⟩) 1 128) (bytesC [128]) := by simpa using hB6_
 have hfu : ∀ k, (Value.slice (some ⟨g22, 0, none⟩) 1 128).ownBlock = some k → w4.heap.size ≤ k := fun k h => by simp [Value.ownBlock] at h; omega
 refine WL.nil (hK8 _ _ ?_); try clear hK8
 refine CW.seq fun K9 hK9 => ?_
 refine CW.block ?_
 refine CW.loop (X := Nat × Value) (fun x => [(0, .pointer (some ⟨g, 0, none⟩)), (2, .pointer (some ⟨g2, 0, none⟩)), (3, .pointer (some ⟨g3, 0, none⟩)), (4, .pointer (some ⟨g4, 0, none⟩)), (5, x.2)]) (fun x w0 => x.1 ≤ padZ xs.length ∧ Ext w w0 ∧ Blk w0 g2 TDi (digC Dig.zero) ∧ Blk w0 g3 TDi (digC Dig.zero) ∧ Blk w0 g4 TH (hashC (blocksN xs (xs.length / 64)) rest xs.length) ∧ Own w0 TB 1 x.2 (bytesC (128 :: List.replicate x.1 0)) ∧ (∀ k, x.2.ownBlock = some k → w4.heap.size ≤ k) ∧ w4.heap.size ≤ w0.heap.size) (fun x => padZ xs.length - x.1) (0, .slice (some ⟨g22, 0, none⟩) 1 128) Fr.ok ⟨Nat.zero_le _, hE, hB2, hB3, hB4, hO, hfu, by show w4.heap.size ≤ _; omega⟩ ?_
 intro x w7 hl7
 clear hE hB2 hB3 hB4 hO hfu
 obtain ⟨x, u⟩ := x
 dsimp only at hl7 ⊢
 obtain ⟨hx, hE, hB2, hB3, hB4, hO, hfu, hzz⟩ := hl7
 obtain ⟨B, mb, cb, rfl⟩ := hO.lens
 have hlm := hO.by.len.1
 simp only [List.length_cons, List.length_replicate] at hlm
 have hz7 := hE.size
 refine CW.seq fun K10 hK10 => ?_
 refine CW.sr fun K11 hK11 => ?_
 refine WL.m rfl ?_
 refine WL.v (Y.nilCheck rfl) ?_
 refine WL.v (Y.fieldAddr fo_digestHash3 rfl) ?_
 refine WL.v (Y.load1 Tryd.underlying3 rfl (Mem.digestHash3 hR.1 (hB.ext hE).mem) rfl) ?_
 refine WL.m rfl ?_
 refine WL.v (Y.len_slice Tryd.underlying32 rfl) ?_
 refine WL.v (Y.add rfl rfl o2_) ?_
 refine WL.v (Y.add rfl rfl o2_) ?_
 refine WL.v (Y.remN (p := xs.length + mb + 8) (q := 64) rfl rfl de_) ?_
 refine WL.v (Y.neq rfl rfl) ?_
 refine WL.nil (hK11 _ _ ?_); try clear hK11
 (first | refine cd_ rfl ?_ ?_ | refine ce_ rfl ?_ ?_ | refine cn_ rfl ?_ ?_ | refine cb_ rfl ?_ ?_) <;> intro ht12
 ·
  -- then
  refine CW.skip ?_
  refine hK10 _ _ ?_; try clear hK10
  refine CW.block ?_
  refine CW.region ?_
  refine WL.m rfl ?_
  refine WL.st (St.buildSlice rfl (bs1 _)) de_ fun v36 w8 hR8 => ?_
  obtain ⟨g36, rfl, hg36, hB36, hx8⟩ := hR8
  have hz8 := hx8.size
  have hE := hE.thenExt hx8
  have hB2 := hB2.ext hx8
  have hB3 := hB3.ext hx8
  have hB4 := hB4.ext hx8
  have hO := hO.ext hx8
  refine WL.st (St.app (xs := 128 :: List.replicate x 0) (ys := [0]) Tryd.underlying32 Tryd.underlying32 ai_u8 rfl rfl hO (Src.arr (ys := [0]) hB36.mem) (by simp; omega)) de_ fun v37 w9 hR9 => ?_
  obtain ⟨hO9, hc9, hf9⟩ := hR9
  have hz9 := hc9.size
  have hE := hE.step hc9 (fun k h => by have := hfu k h; omega)
  have hB2 := hB2.chg hc9 (fun h => by have := hfu _ h; omega)
  have hB3 := hB3.chg hc9 (fun h => by have := hfu _ h; omega)
  have hB4 := hB4.chg hc9 (fun h => by have := hfu _ h; omega)
  have hf9 : ∀ k, v37.ownBlock = some k → w4.heap.size ≤ k := by
   rcases hf9 with h | h
   ·
    intro k hk; rw [h] at hk; exact hfu k hk
   ·
    intro k hk; have := h k hk; omega
  refine WL.a rfl ?_
  refine WL.nil ?_
  have hlt : x < padZ xs.length := by unfold padZ at hx ⊢; omega
  refine ⟨(x + 1, v37), by show padZ xs.length - (x + 1) < padZ xs.length - x; omega, Fr.ok, by show x + 1 ≤ padZ xs.length; omega, hE, hB2, hB3, hB4, ?_, hf9, by omega⟩
  show Own _ TB 1 v37 (bytesC (128 :: List.replicate (x + 1) 0))
  rw [List.replicate_succ', ← List.cons_append]
  exact hO9
 refine CW.exit ?_
 refine hK9 _ _ ?_; try clear hK9
 refine CW.seq fun K13 hK13 => ?_
 refine CW.sr fun K14 hK14 => ?_
 refine WL.m rfl ?_
 refine WL.nil (hK14 _ _ ?_); try clear hK14
 refine CW.block ?_
 refine CW.loop (X := Nat × Value) (fun x => [(0, .pointer (some ⟨g, 0, none⟩)), (2, .pointer (some ⟨g2, 0, none⟩)), (3, .pointer (some ⟨g3, 0, none⟩)), (4, .pointer (some ⟨g4, 0, none⟩)), (5, x.2), (38, .int .i64 (x.1 : Int))]) (fun x w0 => x.1 ≤ 8 ∧ Ext w w0 ∧ Blk w0 g2 TDi (digC Dig.zero) ∧ Blk w0 g3 TDi (digC Dig.zero) ∧ Blk w0 g4 TH (hashC (blocksN xs (xs.length / 64)) rest xs.length) ∧ Own w0 TB 1 x.2 (bytesC (128 :: List.replicate (padZ xs.length) 0 ++ (List.range x.1).map (lenByte xs.length))) ∧ (∀ k, x.2.ownBlock = some k → w4.heap.size ≤ k) ∧ w4.heap.size ≤ w0.heap.size) (fun x => 8 - x.1) (0, .slice B mb cb) Fr.ok ⟨Nat.zero_le _, hE, hB2, hB3, hB4, (by rw [show x = padZ xs.length by (unfold padZ at hx ⊢; omega)] at hO; simpa using hO), hfu, hzz⟩ ?_
 intro x w10 hl10
 clear hE hB2 hB3 hB4 hO hfu hzz hx
 obtain ⟨x, u⟩ := x
 dsimp only at hl10 ⊢
 obtain ⟨hx, hE, hB2, hB3, hB4, hO, hfu, hzz⟩ := hl10
 obtain ⟨B, mb, cb, rfl⟩ := hO.lens
 have hlm := hO.by.len.1
 simp only [List.length_append, List.length_cons, List.length_replicate, List.length_map, List.length_range] at hlm
 have hz10 := hE.size
 refine CW.sr fun K15 hK15 => ?_
 refine WL.v (Y.lss rfl rfl) ?_
 refine WL.nil (hK15 _ _ ?_); try clear hK15
 refine CW.seq fun K16 hK16 => ?_
 (first | refine cd_ rfl ?_ ?_ | refine ce_ rfl ?_ ?_ | refine cn_ rfl ?_ ?_ | refine cb_ rfl ?_ ?_) <;> intro ht17
 ·
  -- then
  refine CW.skip ?_
  refine hK16 _ _ ?_; try clear hK16
  refine CW.seq fun K18 hK18 => ?_
  refine CW.block ?_
  refine CW.sr fun K19 hK19 => ?_
  refine WL.m rfl ?_
  refine WL.a rfl ?_
  refine WL.nil (hK19 _ _ ?_); try clear hK19
  refine CW.region ?_
  refine WL.m rfl ?_
  refine WL.m rfl ?_
  refine WL.v (Y.nilCheck rfl) ?_
  refine WL.v (Y.fieldAddr fo_digestHash3 rfl) ?_
  refine WL.v (Y.load1 Tryd.underlying3 rfl (Mem.digestHash3 hR.1 (hB.ext hE).mem) rfl) ?_
  refine WL.v (Y.conv_int Tryd.underlying3 Tryd.underlying93 rfl) ?_
  refine WL.v (Y.mul_k rfl rfl) ?_
  refine WL.m rfl ?_
  refine WL.v (Y.mul rfl rfl o2_) ?_
  refine WL.v (Y.sub rfl rfl o2_) ?_
  refine WL.v (Y.shr rfl rfl (r := ((xs.length * 8 / 2 ^ (56 - 8 * x) : Nat) : Int)) om_ (by rw [sh_len om_, show (56 - 8 * (x : Int)) = ((56 - 8 * x : Nat) : Int) by omega]; exact sh_div _ _ om_)) ?_
  refine WL.v (Y.conv_int Tryd.underlying93 Tryd.underlying5 rfl) ?_
  refine WL.st (St.buildSlice rfl (bs1 _)) de_ fun v53 w11 hR11 => ?_
  obtain ⟨g53, rfl, hg53, hB53, hx11⟩ := hR11
  have hz11 := hx11.size
  have hE := hE.thenExt hx11
  have hB2 := hB2.ext hx11
  have hB3 := hB3.ext hx11
  have hB4 := hB4.ext hx11
  have hO := hO.ext hx11
  rw [u8_of] at hB53
  refine WL.st (St.app (ys := [lenByte xs.length x]) Tryd.underlying32 Tryd.underlying32 ai_u8 rfl rfl hO (Src.arr (ys := [lenByte xs.length x]) hB53.mem) (by simp; omega)) de_ fun v54 w12 hR12 => ?_
  obtain ⟨hO12, hc12, hf12⟩ := hR12
  have hz12 := hc12.size
  have hE := hE.step hc12 (fun k h => by have := hfu k h; omega)
  have hB2 := hB2.chg hc12 (fun h => by have := hfu _ h; omega)
  have hB3 := hB3.chg hc12 (fun h => by have := hfu _ h; omega)
  have hB4 := hB4.chg hc12 (fun h => by have := hfu _ h; omega)
  have hf12 : ∀ k, v54.ownBlock = some k → w4.heap.size ≤ k := by
   rcases hf12 with h | h
   ·
    intro k hk; rw [h] at hk; exact hfu k hk
   ·
    intro k hk; have := h k hk; omega
  refine WL.a rfl ?_
  refine WL.nil (hK18 _ _ ?_); try clear hK18
  refine CW.region ?_
  refine WL.v (Y.add rfl rfl o2_) ?_
  refine WL.m rfl ?_
  refine WL.nil ?_
  refine ⟨(x + 1, v54), by show 8 - (x + 1) < 8 - x; omega, Fr.ok, by show x + 1 ≤ 8; omega, hE, hB2, hB3, hB4, ?_, hf12, by omega⟩
  show Own _ TB 1 v54 (bytesC (128 :: List.replicate (padZ xs.length) 0 ++ (List.range (x + 1)).map (lenByte xs.length)))
  rw [List.range_succ, List.map_append, ← List.append_assoc]
  exact hO12
 refine CW.exit ?_
 refine hK13 _ _ ?_; try clear hK13
 refine CW.sr fun K20 hK20 => ?_
 refine WL.m rfl ?_
 refine WL.call Tryd.func18 rfl rfl rfl (write_any g4 xs rest _ (padB xs.length) _ hB4 hR (by rw [show x = 8 by omega] at hO; exact hO.by) (fun _ k hk => by have := hfu k hk; omega) (hK.ext hE) om_ (by rw [padB_len]; omega)) (by simp) ?_; rintro v57 w13 hR13
 obtain ⟨rest2, hB4, hR2, hc13⟩ := hR13
 have hz13 := hc13.size
 have hE := hE.step hc13 (fun k h => by omega)
 have hB2 := hB2.chg hc13 no_
 have hB3 := hB3.chg hc13 no_
 have hww : xs ++ padB xs.length = wholeB xs := rfl
 rw [hww] at hB4
 refine WL.nil (hK20 _ _ ?_); try clear hK20
 refine CW.seq fun K21 hK21 => ?_
 refine CW.seq fun K22 hK22 => ?_
 have hB3 := (show Blk w13 g3 TDi (bytesC ((List.range (4 * 0)).map (digB (blocksN (wholeB xs) ((wholeB xs).length / 64))) ++ List.replicate (32 - 4 * 0) 0)) by
  have e : digC Dig.zero = bytesC (List.replicate 32 0) := rfl
  rw [e] at hB3
  simpa using hB3)
 refine CW.region ?_
 refine WL.v (Y.fieldAddr fo_digestHash1 rfl) ?_
 refine WL.v (Y.load Tryd.underlying87 rfl (Mem.digestHash1 hB4.mem) (sz_digeststate _) rfl) ?_
 refine WL.m rfl ?_
 refine WL.nil (hK22 _ _ ?_); try clear hK22
 refine CW.block ?_
 refine CW.loop (X := Nat) (fun x => [(2, .pointer (some ⟨g2, 0, none⟩)), (3, .pointer (some ⟨g3, 0, none⟩)), (59, stV (blocksN (wholeB xs) ((wholeB xs).length / 64))), (60, .int .i64 (x : Int))]) (fun x w0 => x ≤ 8 ∧ Ext w w0 ∧ Blk w0 g2 TDi (digC Dig.zero) ∧ Blk w0 g3 TDi (bytesC ((List.range (4 * x)).map (digB (blocksN (wholeB xs) ((wholeB xs).length / 64))) ++ List.replicate (32 - 4 * x) 0)) ∧ Blk w0 g4 TH (hashC (blocksN (wholeB xs) ((wholeB xs).length / 64)) rest2 (wholeB xs).length)) (fun x => 8 - x) 0 Fr.ok ⟨Nat.zero_le _, hE, hB2, hB3, hB4⟩ ?_
 intro x w14 hl14
 clear hE hB2 hB3 hB4 hO hfu hx
 obtain ⟨hx, hE, hB2, hB3, hB4⟩ := hl14
 have hz14 := hE.size
 refine CW.sr fun K23 hK23 => ?_
 refine WL.v (Y.lss rfl rfl) ?_
 refine WL.nil (hK23 _ _ ?_); try clear hK23
 refine CW.seq fun K24 hK24 => ?_
 (first | refine cd_ rfl ?_ ?_ | refine ce_ rfl ?_ ?_ | refine cn_ rfl ?_ ?_ | refine cb_ rfl ?_ ?_) <;> intro ht25
 ·
  -- then
  refine CW.skip ?_
  refine hK24 _ _ ?_; try clear hK24
  refine CW.seq fun K26 hK26 => ?_
  refine CW.block ?_
  refine CW.sr fun K27 hK27 => ?_
  refine WL.m rfl ?_
  refine WL.v (Y.index_ws rfl rfl (ws_get om_)) ?_
  refine WL.a rfl ?_
  refine WL.a rfl ?_
  refine WL.nil (hK27 _ _ ?_); try clear hK27
  refine CW.region ?_
  refine WL.m rfl ?_
  refine WL.v (Y.mul rfl rfl o2_) ?_
  refine WL.m rfl ?_
  refine WL.v (Y.mul rfl rfl o2_) ?_
  refine WL.v (Y.add rfl rfl o2_) ?_
  refine WL.m rfl ?_
  refine WL.v (Y.mul rfl rfl o2_) ?_
  refine WL.v (Y.add rfl rfl o2_) ?_
  refine WL.m rfl ?_
  refine WL.v (Y.mul rfl rfl o2_) ?_
  refine WL.v (Y.add rfl rfl o2_) ?_
  refine WL.m rfl ?_
  refine WL.v (Y.shrW 24 rfl rfl rfl de_) ?_
  refine WL.v (Y.convW8 Tryd.underlying85 Tryd.underlying5 rfl) ?_
  refine WL.m rfl ?_
  refine WL.v (Y.shrW 16 rfl rfl rfl de_) ?_
  refine WL.v (Y.convW8 Tryd.underlying85 Tryd.underlying5 rfl) ?_
  refine WL.m rfl ?_
  refine WL.v (Y.shrW 8 rfl rfl rfl de_) ?_
  refine WL.v (Y.convW8 Tryd.underlying85 Tryd.underlying5 rfl) ?_
  refine WL.m rfl ?_
  refine WL.v (Y.convW8 Tryd.underlying85 Tryd.underlying5 rfl) ?_
  refine WL.v (Y.indexAddrAN Tryd.underlying30 rfl rfl sz0_uint8 (i := 4 * x) om_) ?_
  refine WL.store (g := g3) (pre := bytesC ((List.range (4 * x)).map (digB (blocksN (wholeB xs) ((wholeB xs).length / 64))))) (old := [bc 0]) (post := bytesC (List.replicate (31 - (4 * x)) 0)) (new := [bc (((blocksN (wholeB xs) ((wholeB xs).length / 64)).ws.getD x 0 >>> UInt32.ofNat 24).toUInt8)]) rfl (by rw [add_zero', bytesC_length, List.length_map, List.length_range, Nat.mul_one]) rfl rfl kr_ (by rw [← dig_put _ om_]; exact hB3) (by first | (simp only [List.length_cons, List.length_nil, List.length_map, List.length_replicate, V8.ws, digC_length]; done) | rfl | (simp [digC_length, opC_length]; done) | (simp only [digC_length, opC_length]; omega)) (one1 rfl) (fun w15 hc15 hB15_ => ?_)
  have hz15 := hc15.size; have hE := hE.step hc15 (fun k h => by omega); have hB2 := hB2.chg hc15 no_; have hB4 := hB4.chg hc15 no_
  have hB3 := (show Blk w15 g3 TDi (bytesC ((List.range (4 * x + 1)).map (digB (blocksN (wholeB xs) ((wholeB xs).length / 64))) ++ List.replicate (32 - (4 * x + 1)) 0)) by rw [dig_new, digB_at0]; exact hB15_)
  refine WL.v (Y.indexAddrAN Tryd.underlying30 rfl rfl sz0_uint8 (i := 4 * x + 1) om_) ?_
  refine WL.store (g := g3) (pre := bytesC ((List.range (4 * x + 1)).map (digB (blocksN (wholeB xs) ((wholeB xs).length / 64))))) (old := [bc 0]) (post := bytesC (List.replicate (31 - (4 * x + 1)) 0)) (new := [bc (((blocksN (wholeB xs) ((wholeB xs).length / 64)).ws.getD x 0 >>> UInt32.ofNat 16).toUInt8)]) rfl (by rw [add_zero', bytesC_length, List.length_map, List.length_range, Nat.mul_one]) rfl rfl kr_ (by rw [← dig_put _ om_]; exact hB3) (by first | (simp only [List.length_cons, List.length_nil, List.length_map, List.length_replicate, V8.ws, digC_length]; done) | rfl | (simp [digC_length, opC_length]; done) | (simp only [digC_length, opC_length]; omega)) (one1 rfl) (fun w16 hc16 hB16_ => ?_)
  have hz16 := hc16.size; have hE := hE.step hc16 (fun k h => by omega); have hB2 := hB2.chg hc16 no_; have hB4 := hB4.chg hc16 no_
  have hB3 := (show Blk w16 g3 TDi (bytesC ((List.range (4 * x + 1 + 1)).map (digB (blocksN (wholeB xs) ((wholeB xs).length / 64))) ++ List.replicate (32 - (4 * x + 1 + 1)) 0)) by rw [dig_new, digB_at _ _ _ de_]; exact hB16_)
  refine WL.v (Y.indexAddrAN Tryd.underlying30 rfl rfl sz0_uint8 (i := 4 * x + 2) om_) ?_
  refine WL.store (g := g3) (pre := bytesC ((List.range (4 * x + 2)).map (digB (blocksN (wholeB xs) ((wholeB xs).length / 64))))) (old := [bc 0]) (post := bytesC (List.replicate (31 - (4 * x + 2)) 0)) (new := [bc (((blocksN (wholeB xs) ((wholeB xs).length / 64)).ws.getD x 0 >>> UInt32.ofNat 8).toUInt8)]) rfl (by rw [add_zero', bytesC_length, List.length_map, List.length_range, Nat.mul_one]) rfl rfl kr_ (by rw [← dig_put _ om_]; exact hB3) (by first | (simp only [List.length_cons, List.length_nil, List.length_map, List.length_replicate, V8.ws, digC_length]; done) | rfl | (simp [digC_length, opC_length]; done) | (simp only [digC_length, opC_length]; omega)) (one1 rfl) (fun w17 hc17 hB17_ => ?_)
  have hz17 := hc17.size; have hE := hE.step hc17 (fun k h => by omega); have hB2 := hB2.chg hc17 no_; have hB4 := hB4.chg hc17 no_
  have hB3 := (show Blk w17 g3 TDi (bytesC ((List.range (4 * x + 2 + 1)).map (digB (blocksN (wholeB xs) ((wholeB xs).length / 64))) ++ List.replicate (32 - (4 * x + 2 + 1)) 0)) by rw [dig_new, digB_at _ _ _ de_]; exact hB17_)
  refine WL.v (Y.indexAddrAN Tryd.underlying30 rfl rfl sz0_uint8 (i := 4 * x + 3) om_) ?_
  refine WL.store (g := g3) (pre := bytesC ((List.range (4 * x + 3)).map (digB (blocksN (wholeB xs) ((wholeB xs).length / 64))))) (old := [bc 0]) (post := bytesC (List.replicate (31 - (4 * x + 3)) 0)) (new := [bc (((blocksN (wholeB xs) ((wholeB xs).length / 64)).ws.getD x 0).toUInt8)]) rfl (by rw [add_zero', bytesC_length, List.length_map, List.length_range, Nat.mul_one]) rfl rfl kr_ (by rw [← dig_put _ om_]; exact hB3) (by first | (simp only [List.length_cons, List.length_nil, List.length_map, List.length_replicate, V8.ws, digC_length]; done) | rfl | (simp [digC_length, opC_length]; done) | (simp only [digC_length, opC_length]; omega)) (one1 rfl) (fun w18 hc18 hB18_ => ?_)
  have hz18 := hc18.size; have hE := hE.step hc18 (fun k h => by omega); have hB2 := hB2.chg hc18 no_; have hB4 := hB4.chg hc18 no_
  have hB3 := (show Blk w18 g3 TDi (bytesC ((List.range (4 * x + 3 + 1)).map (digB (blocksN (wholeB xs) ((wholeB xs).length / 64))) ++ List.replicate (32 - (4 * x + 3 + 1)) 0)) by rw [dig_new, digB_at3]; exact hB18_)
  refine WL.nil (hK26 _ _ ?_); try clear hK26
  refine CW.region ?_
  refine WL.v (Y.add rfl rfl o2_) ?_
  refine WL.m rfl ?_
  refine WL.nil ?_
  refine ⟨x + 1, by show 8 - (x + 1) < 8 - x; omega, Fr.ok, by show x + 1 ≤ 8; omega, hE, hB2, ?_, hB4⟩
  rw [show 4 * (x + 1) = 4 * x + 3 + 1 by omega]
  exact hB3
 refine CW.exit ?_
 refine hK21 _ _ ?_; try clear hK21
 refine CW.seq fun K28 hK28 => ?_
 have hB3 := (show Blk w14 g3 TDi (digC (shaD xs)) by
  have e : digC (shaD xs) = bytesC (digsV (blocksN (wholeB xs) ((wholeB xs).length / 64))) := rfl
  rw [e, digsV]
  rw [show x = 8 by omega] at hB3
  simpa using hB3)
 refine CW.region ?_
 refine WL.v (Y.load Tryd.underlying30 rfl hB3.mem (sz_apiDigest _) rfl) ?_
 refine WL.store (g := g2) (pre := []) (old := digC Dig.zero) (post := []) (new := digC (shaD xs)) rfl rfl rfl rfl (sz_apiDigest _) (by simpa using hB2) (by first | (simp only [List.length_cons, List.length_nil, List.length_map, List.length_replicate, V8.ws, digC_length]; done) | rfl | (simp [digC_length, opC_length]; done) | (simp only [digC_length, opC_length]; omega)) (one_digC) (fun w19 hc19 hB19_ => ?_)
 have hz19 := hc19.size; have hE := hE.step hc19 (fun k h => by omega); have hB3 := hB3.chg hc19 no_; have hB4 := hB4.chg hc19 no_
 have hB2 : Blk w19 g2 TDi (digC (shaD xs)) := by simpa using hB19_
 refine WL.nil (hK28 _ _ ?_); try clear hK28
 refine CW.ret ?_
 exact ⟨_, _, rfl, hB2.mem, digC_length _, rfl, hE⟩
end Go.Proofs.YtfanmpbapabboaaDoor
/- digest.Sum, walked: SHA-256. No condition. -/
namespace Go.Proofs.YtfanmpbapabboaaDoor
open Go.RowKit Go.Fw Go.Pl
theorem sum_any (u : Value) (b : List UInt8) (w : World) (hb : By w u b) (hbl : b ≠ [] → ∀ k, u.ownBlock = some k → k < w.heap.size) (hK : Mem w ⟨0, 0, none⟩ (wds keysL)) (hr : b.length ≤ 140737488351232) : Calls Tryd.prog 7 #[u] w (Ret fun v w' => v = digV (shaD b) ∧ Ext w w') := by
 obtain ⟨A, m, c, rfl⟩ := hb.lens
 have hk0 : (0 : Nat) < w.heap.size := hK.lt (fun h => by cases h)
 obtain ⟨id, hid, hzd, _⟩ := info_apiDigest
 refine calls_of_CWc 10 2 32 [(0, .slice A m c)] Tryd.func7 rfl rfl rfl Tryd.underlying30 rfl kr_ (by simp) args1 ?_
 have hE : Ext w w := Chg.refl
 refine CW.sr fun K1 hK1 => ?_
 refine WL.alloc (hid) (hzd) rfl de_ fun g2 w1 hx1 hg2 hB2 => ?_
 have hlt2 := hB2.lt; have hz1 := hx1.size
 have hM2 := hB2.mem; have hz1 := hx1.size; have hE := hE.thenExt hx1
 refine WL.nil (hK1 _ _ ?_); try clear hK1
 refine CW.sr fun K2 hK2 => ?_
 refine WL.call Tryd.func17 rfl rfl rfl (new_any _) (by simp) ?_; rintro v4 w2 hR2
 obtain ⟨g4, rfl, hg4, hB4, hx2⟩ := hR2
 have hz2 := hx2.size
 have hE := hE.thenExt hx2
 have hB2 := hB2.ext hx2
 refine WL.a rfl ?_
 refine WL.nil (hK2 _ _ ?_); try clear hK2
 refine CW.sr fun K3 hK3 => ?_
 refine WL.m rfl ?_
 refine WL.m rfl ?_
 refine WL.call Tryd.func18 rfl rfl rfl (write_any g4 [] (List.replicate 64 0) _ b _ hB4 restOf_nil (hb.ext hE) (fun h k hk => by have := hbl h k hk; omega) (hK.ext hE) om_ (by simp; omega)) (by simp) ?_; rintro v7 w3 hR3
 obtain ⟨rest, hB4, hR4, hc3⟩ := hR3
 rw [List.nil_append] at hB4 hR4
 have hz3 := hc3.size
 have hE := hE.step hc3 (fun k h => by omega)
 have hB2 := hB2.chg hc3 (fun h => by have := hB2.lt; omega)
 refine WL.nil (hK3 _ _ ?_); try clear hK3
 refine CW.sr fun K4 hK4 => ?_
 refine WL.m rfl ?_
 refine WL.call Tryd.func19 rfl rfl rfl (hsum_any g4 b rest _ hB4 hR4 (hK.ext hE) hr) (by simp) ?_; rintro v w4 ⟨rfl, hx4⟩; have hz4 := hx4.size; have hE := hE.thenExt hx4; have hB2 := hB2.ext hx4
 refine WL.store (g := g2) (pre := []) (old := digC Dig.zero) (post := []) (new := digC (shaD b)) rfl rfl rfl rfl (sz_apiDigest _) (by simpa using hB2) (by first | (simp only [List.length_cons, List.length_nil, List.length_map, List.length_replicate, V8.ws, digC_length]; done) | rfl | (simp [digC_length, opC_length]; done) | (simp only [digC_length, opC_length]; omega)) (one_digC) (fun w5 hc5 hB5_ => ?_)
 have hz5 := hc5.size; have hE := hE.step hc5 (fun k h => by omega)
 have hB2 : Blk w5 g2 TDi (digC (shaD b)) := by simpa using hB5_
 refine WL.nil (hK4 _ _ ?_); try clear hK4
 refine CW.ret ?_
 exact ⟨_, _, rfl, hB2.mem, digC_length _, rfl, hE⟩
end Go.Proofs.YtfanmpbapabboaaDoor
