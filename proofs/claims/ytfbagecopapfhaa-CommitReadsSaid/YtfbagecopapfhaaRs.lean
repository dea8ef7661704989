/- The reference's readers, walked: digest, readOp. No condition. -/
import Derived.Test.YtfbagecopapfhaaRr
set_option linter.unusedSimpArgs false
set_option linter.unusedVariables false
namespace Go.Fw
open Go.RowKit
theorem dig_fill {b : List UInt8} {at_ x : Nat} (h : x < 32) : bytesC ((b.drop at_).take x ++ List.replicate (32 - x) 0) = bytesC ((b.drop at_).take x) ++ [bc 0] ++ bytesC (List.replicate (31 - x) 0) := by
  obtain ⟨k, hk⟩ : ∃ k, 32 - x = k + 1 := ⟨31 - x, by omega⟩
  rw [hk, List.replicate_succ, bytesC_append, show 31 - x = k by omega, List.append_assoc]
  rfl
theorem dig_more {b : List UInt8} {at_ x : Nat} {c : UInt8} (h : b[at_ + x]? = some c) : bytesC ((b.drop at_).take x) ++ [bc c] ++ bytesC (List.replicate (31 - x) 0) = bytesC ((b.drop at_).take (x + 1) ++ List.replicate (32 - (x + 1)) 0) := by
  have h1 : (b.drop at_)[x]? = some c := by rw [List.getElem?_drop]; exact h
  rw [List.take_add_one, h1, bytesC_append, bytesC_append, show 32 - (x + 1) = 31 - x by omega]
  rfl
abbrev opZ : OpD := ⟨0, false, RefD.zero, 0⟩
section
variable {k n : Int} {l o : Bool} {c : Dig} {b : UInt8}
theorem opCs_own : opC ⟨k, l, ⟨o, c, n⟩, b⟩ = [.int .i64 k, .bool l] ++ [.bool o] ++ (digC c ++ [.int .i64 n, bc b]) := by simp [opC, refC]
theorem opCs_c : opC ⟨k, l, ⟨o, c, n⟩, b⟩ = [.int .i64 k, .bool l, .bool o] ++ digC c ++ [.int .i64 n, bc b] := by simp [opC, refC]
theorem opCs_n : opC ⟨k, l, ⟨o, c, n⟩, b⟩ = (.int .i64 k :: .bool l :: .bool o :: digC c) ++ [.int .i64 n] ++ [bc b] := by simp [opC, refC]
theorem opCs_b : opC ⟨k, l, ⟨o, c, n⟩, b⟩ = (.int .i64 k :: .bool l :: .bool o :: (digC c ++ [.int .i64 n])) ++ [bc b] ++ [] := by simp [opC, refC]
end
end Go.Fw
namespace Go.Pl
open Go.Fw
def gdB (b : List UInt8) (at_ : Nat) : Bool := decide (at_ + 32 ≤ b.length)
def gdD (b : List UInt8) (at_ : Nat) : Dig := if h : at_ + 32 ≤ b.length then ⟨(b.drop at_).take 32, by rw [List.length_take, List.length_drop]; omega⟩ else Dig.zero
theorem gdB_yes {b : List UInt8} {at_ : Nat} (h : gdB b at_ = true) : gdig b at_ = .ok (gdD b at_, at_ + 32) ∧ at_ + 32 ≤ b.length := by
  have h' : at_ + 32 ≤ b.length := by simpa [gdB] using h
  rw [gdig, dif_pos h', gdD, dif_pos h']
  exact ⟨rfl, h'⟩
theorem gdB_no {b : List UInt8} {at_ : Nat} (h : gdB b at_ = false) : gdig b at_ = .error 8 := by
  have h' : ¬ at_ + 32 ≤ b.length := by simpa [gdB] using h
  rw [gdig, dif_neg h']
def goE (b : List UInt8) (at_ : Nat) : Int := match gop b at_ with | .error e => e | .ok _ => 0
def goV (b : List UInt8) (at_ : Nat) : OpD := match gop b at_ with | .error _ => opZ | .ok (x, _) => x
def goX (b : List UInt8) (at_ : Nat) : Int := match gop b at_ with | .error _ => 0 | .ok (_, a) => (a : Int)
theorem go_err {b : List UInt8} {at_ : Nat} {e : Int} (h : gop b at_ = .error e) : goE b at_ = e ∧ goV b at_ = opZ ∧ goX b at_ = 0 := by simp only [goE, goV, goX, h]; exact ⟨trivial, trivial, trivial⟩
theorem go_ok {b : List UInt8} {at_ a : Nat} {x : OpD} (h : gop b at_ = .ok (x, a)) : goE b at_ = 0 ∧ goV b at_ = x ∧ goX b at_ = (a : Int) := by simp only [goE, goV, goX, h]; exact ⟨trivial, trivial, trivial⟩
end Go.Pl
namespace Go.Proofs.Ytfbagecopapfhaa
open Go.RowKit Go.Fw Go.Pl
theorem build_op2 (k : Int) (b : Bool) (w : World) : (Instr.build 57 [(0, Value.int .i64 k), (1, Value.bool b)].toArray).run Try.prog w = .ok (opV ⟨k, b, RefD.zero, 0⟩) w := run_build w _ _ _ (by kernel_rfl)
theorem build_apiOp (w : World) : (Instr.build 57 #[]).run Try.prog w = .ok (opV opZ) w := by kernel_rfl
abbrev TD : TypeId := 51
abbrev TO : TypeId := 57

set_option maxRecDepth 20000 in
theorem rDig_any (s : ByteArray) (at_ : Nat) (w : World) (hsm : s.size ≤ 9223372036854775000) (hat : at_ ≤ s.size) : Calls Try.prog 57 #[.string s, .int .i64 (at_ : Int)] w (Ret fun v w' => v = .tuple #[digV (gdD s.toList at_), .bool (gdB s.toList at_)] ∧ Ext w w') := by
  have hsl := toList_length s
  obtain ⟨id, hid, hzd, _⟩ := info_apiDigest
  refine calls_of_CWct 26 4 32 [5] [(0, .string s), (1, .int .i64 (at_ : Int))] Try.func57 rfl rfl rfl Try.underlying51 rfl (by kernel_rfl) (by simp) args2 ?_
  have hE : Ext w w := Chg.refl
  refine CW.seq fun K1 hK1 => ?_
  refine CW.region ?_   -- region 0
  refine WL.alloc (hid) (hzd) rfl (by decide) fun g4 w1 hx1 hg4 hB4 => ?_   -- t4 := alloc 51
  have hlt4 := hB4.lt; have hz1 := hx1.size
  have hM4 := hB4.mem; have hz1 := hx1.size; have hE := hE.thenExt hx1
  refine WL.val (Y.assign rfl) (by decide) ?_   -- t5 := assign c(false)
  refine WL.nil ?_
  refine hK1 _ _ ?_; try clear hK1 K1
  refine CW.seq fun K2 hK2 => ?_
  refine CW.region ?_   -- region 1
  refine WL.alloc (hid) (hzd) rfl (by decide) fun g6 w2 hx2 hg6 hB6 => ?_   -- t6 := alloc 51
  have hlt6 := hB6.lt; have hz2 := hx2.size
  have hM6 := hB6.mem; have hz2 := hx2.size; have hE := hE.thenExt hx2; have hB4 := hB4.ext hx2
  refine WL.nil ?_
  refine hK2 _ _ ?_; try clear hK2 K2
  refine CW.seq fun K3 hK3 => ?_
  refine CW.seq fun K4 hK4 => ?_
  refine CW.region ?_   -- region 2
  refine WL.val (Y.move rfl) (by decide) ?_   -- t8 := move t0
  refine WL.val (Y.len_string Try.underlying9 rfl) (by decide) ?_   -- t9 := call len(t8) : 9
  refine WL.val (Y.move rfl) (by decide) ?_   -- t10 := move t1
  refine WL.val (Y.sub rfl rfl ⟨by omega, by omega⟩) (by decide) ?_   -- t11 := binOp sub 3 t9 t10 3
  refine WL.val (Y.lss rfl rfl) (by decide) ?_   -- t12 := binOp lss 3 t11 c(32:i64) 3
  refine WL.nil ?_
  refine hK4 _ _ ?_; try clear hK4 K4
  first | refine CW.condD rfl (fun ht5 => ?_) (fun ht5 => ?_) | refine CW.condND rfl (fun ht5 => ?_) (fun ht5 => ?_) | refine CW.condN rfl (fun ht5 => ?_) (fun ht5 => ?_) | refine CW.cond rfl (fun ht5 => ?_) (fun ht5 => ?_)
  · -- then
    refine CW.seq fun K6 hK6 => ?_
    refine CW.region ?_   -- region 3
    refine WL.val (Y.load Try.underlying51 rfl hB6.mem (sz_apiDigest _) rfl) (by decide) ?_   -- t13 := load 51 t6
    refine WL.store (g := g4) (pre := []) (old := digC Dig.zero) (post := []) (new := digC Dig.zero) rfl rfl rfl rfl (sz_apiDigest _) (by simpa using hB4) (by first | rfl | (simp [digC_length, opC_length]; done) | (simp only [digC_length, opC_length]; omega)) (one_digC) (fun w3 hc3 hB3_ => ?_)   -- _ := store 51 t4 t13
    have hz3 := hc3.size; have hE := hE.step hc3 (fun k h => by omega); have hB6 := hB6.chg hc3 (fun h => by omega)
    have hB4 : Blk w3 g4 TD (digC Dig.zero) := by simpa using hB3_
    refine WL.val (Y.assign rfl) (by decide) ?_   -- t5 := assign c(false)
    refine WL.nil ?_
    refine hK6 _ _ ?_; try clear hK6 K6
    refine CW.ret ?_
    exact ⟨_, _, _, rfl, hB4.mem, digC_length _, rfl, by rw [gdD, dif_neg (by omega), gdB, decide_eq_false (by omega)], hE⟩
  -- else
  refine CW.skip ?_
  refine hK3 _ _ ?_; try clear hK3 K3
  refine CW.seq fun K7 hK7 => ?_
  refine CW.seq fun K8 hK8 => ?_
  refine CW.region ?_   -- region 4
  refine WL.val (Y.assign rfl) (by decide) ?_   -- t7 := assign c(0:i64)
  refine WL.nil ?_
  refine hK8 _ _ ?_; try clear hK8 K8
  refine CW.block ?_   -- block 0
  refine CW.loop (X := Nat) (fun x => [(0, .string s), (1, .int .i64 (at_ : Int)), (4, .pointer (some ⟨g4, 0, none⟩)), (6, .pointer (some ⟨g6, 0, none⟩)), (7, .int .i64 (x : Int))]) (fun x w0 => x ≤ 32 ∧ Ext w w0 ∧ Blk w0 g4 TD (digC Dig.zero) ∧ Blk w0 g6 TD (bytesC ((s.toList.drop at_).take x ++ List.replicate (32 - x) 0))) (fun x => 32 - x) 0 (by repeat (first | exact Fr.le.nil | refine Fr.le.cons rfl ?_)) ⟨Nat.zero_le _, hE, hB4, (by simpa [digC, Dig.zero] using hB6)⟩ ?_
  intro x w4 hl4
  obtain ⟨hi, hE, hB4, hB6⟩ := hl4
  refine CW.seq fun K9 hK9 => ?_
  refine CW.seq fun K10 hK10 => ?_
  refine CW.region ?_   -- region 5
  refine WL.val (Y.move rfl) (by decide) ?_   -- t14 := move t7
  refine WL.val (Y.lss rfl rfl) (by decide) ?_   -- t15 := binOp lss 3 t14 c(32:i64) 3
  refine WL.nil ?_
  refine hK10 _ _ ?_; try clear hK10 K10
  first | refine CW.condD rfl (fun ht11 => ?_) (fun ht11 => ?_) | refine CW.condND rfl (fun ht11 => ?_) (fun ht11 => ?_) | refine CW.condN rfl (fun ht11 => ?_) (fun ht11 => ?_) | refine CW.cond rfl (fun ht11 => ?_) (fun ht11 => ?_)
  · -- then
    refine CW.skip ?_
    refine hK9 _ _ ?_; try clear hK9 K9
    refine CW.seq fun K12 hK12 => ?_
    refine CW.block ?_   -- block 1
    refine CW.region ?_   -- region 7
    refine WL.val (Y.move rfl) (by decide) ?_   -- t18 := move t7
    refine WL.val (Y.move rfl) (by decide) ?_   -- t19 := move t0
    refine WL.val (Y.move rfl) (by decide) ?_   -- t20 := move t1
    refine WL.val (Y.move rfl) (by decide) ?_   -- t21 := move t7
    refine WL.val (Y.add rfl rfl ⟨by omega, by omega⟩) (by decide) ?_   -- t22 := binOp add 3 t20 t21 3
    refine WL.val (Y.index_string (i := at_ + x) Try.underlying9 rfl rfl (by omega)) (by decide) ?_   -- t23 := index 9 t19 t22
    refine WL.val (Y.indexAddrAN Try.underlying51 rfl rfl sz0_uint8 (by omega)) (by decide) ?_   -- t24 := indexAddr 51 t6 t18
    refine WL.store (g := g6) (pre := bytesC ((s.toList.drop at_).take x)) (old := [bc 0]) (post := bytesC (List.replicate (31 - x) 0)) (new := [bc s[at_ + x]]) rfl (by rw [add_zero']; simp [bytesC_length]; omega) rfl rfl (by kernel_rfl) (by rw [← dig_fill (by omega)]; exact hB6) (by first | rfl | (simp [digC_length, opC_length]; done) | (simp only [digC_length, opC_length]; omega)) (one1 rfl) (fun w5 hc5 hB5_ => ?_)   -- _ := store 5 t24 t23
    have hz5 := hc5.size; have hE := hE.step hc5 (fun k h => by omega); have hB4 := hB4.chg hc5 (fun h => by omega)
    rw [dig_more (get_toList (by omega))] at hB5_
    have hB6 := hB5_
    refine WL.nil ?_
    refine hK12 _ _ ?_; try clear hK12 K12
    refine CW.region ?_   -- region 6
    refine WL.val (Y.move rfl) (by decide) ?_   -- t16 := move t7
    refine WL.val (Y.add rfl rfl ⟨by omega, by omega⟩) (by decide) ?_   -- t17 := binOp add 3 t16 c(1:i64) 3
    refine WL.val (Y.assign rfl) (by decide) ?_   -- t7 := assign t17
    refine WL.nil ?_
    refine ⟨x + 1, by omega, (by repeat (first | exact Fr.le.nil | refine Fr.le.cons rfl ?_)), by omega, hE, hB4, hB6⟩
  -- else
  refine CW.exit ?_   -- exit 0
  refine hK7 _ _ ?_; try clear hK7 K7
  refine CW.seq fun K13 hK13 => ?_
  refine CW.region ?_   -- region 8
  obtain ⟨d, hd, hgd⟩ : ∃ d : Dig, d.1 = (s.toList.drop at_).take 32 ∧ gdD s.toList at_ = d := ⟨gdD s.toList at_, by rw [gdD, dif_pos (by omega)], rfl⟩
  have hx32 : x = 32 := by omega
  have hB6 : Blk w4 g6 TD (digC d) := by rw [hx32] at hB6; simpa [digC, hd] using hB6
  refine WL.val (Y.load Try.underlying51 rfl hB6.mem (sz_apiDigest _) rfl) (by decide) ?_   -- t25 := load 51 t6
  refine WL.store (g := g4) (pre := []) (old := digC Dig.zero) (post := []) (new := digC d) rfl rfl rfl rfl (sz_apiDigest _) (by simpa using hB4) (by first | rfl | (simp [digC_length, opC_length]; done) | (simp only [digC_length, opC_length]; omega)) (one_digC) (fun w6 hc6 hB6_ => ?_)   -- _ := store 51 t4 t25
  have hz6 := hc6.size; have hE := hE.step hc6 (fun k h => by omega); have hB6 := hB6.chg hc6 (fun h => by omega)
  have hB4 : Blk w6 g4 TD (digC d) := by simpa using hB6_
  refine WL.val (Y.assign rfl) (by decide) ?_   -- t5 := assign c(true)
  refine WL.nil ?_
  refine hK13 _ _ ?_; try clear hK13 K13
  refine CW.ret ?_
  exact ⟨_, _, _, rfl, hB4.mem, digC_length _, rfl, by rw [hgd, gdB, decide_eq_true (by omega)], hE⟩
set_option maxRecDepth 20000 in
theorem rOp_any (s : ByteArray) (at_ : Nat) (w : World) (hsm : s.size ≤ 9223372036854770000) (hat : at_ ≤ s.size) : Calls Try.prog 41 #[.string s, .int .i64 (at_ : Int)] w (Ret fun v w' => v = .tuple #[opV (goV s.toList at_), .int .i64 (goX s.toList at_), .int .i64 (goE s.toList at_)] ∧ Ext w w') := by
  have hsl := toList_length s
  obtain ⟨io, hio, hzo, _⟩ := info_apiOp
  refine calls_of_CWct 97 4 37 [5, 6] [(0, .string s), (1, .int .i64 (at_ : Int))] Try.func41 rfl rfl rfl Try.underlying57 rfl (by kernel_rfl) (by simp) args2 ?_
  have hE : Ext w w := Chg.refl
  refine CW.seq fun K1 hK1 => ?_
  refine CW.region ?_   -- region 0
  refine WL.alloc (hio) (hzo) rfl (by decide) fun g4 w1 hx1 hg4 hB4 => ?_   -- t4 := alloc 57
  have hlt4 := hB4.lt; have hz1 := hx1.size
  have hM4 := hB4.mem; have hz1 := hx1.size; have hE := hE.thenExt hx1
  refine WL.val (Y.assign rfl) (by decide) ?_   -- t5 := assign c(0:i64)
  refine WL.val (Y.assign rfl) (by decide) ?_   -- t6 := assign c(0:i64)
  refine WL.nil ?_
  refine hK1 _ _ ?_; try clear hK1 K1
  refine CW.seq fun K2 hK2 => ?_
  refine CW.region ?_   -- region 1
  refine WL.val (Y.move rfl) (by decide) ?_   -- t17 := move t0
  refine WL.val (Y.move rfl) (by decide) ?_   -- t18 := move t1
  refine WL.call Try.func40 rfl rfl rfl ((rGetNum_t s at_ _ (by omega) hat)) (by simp) ?_; rintro v w2 ⟨rfl, hx2⟩; have hz2 := hx2.size; have hE := hE.thenExt hx2; have hB4 := hB4.ext hx2   -- t19 := call F40(t17, t18) : 9,3
  refine WL.val (Y.move rfl) (by decide) ?_   -- t16 := move t19
  refine WL.val (Y.extract rfl rfl) (by decide) ?_   -- t20 := extract t16 0
  refine WL.val (Y.extract rfl rfl) (by decide) ?_   -- t21 := extract t16 1
  refine WL.val (Y.extract rfl rfl) (by decide) ?_   -- t22 := extract t16 2
  refine WL.val (Y.assign rfl) (by decide) ?_   -- t7 := assign t20
  refine WL.val (Y.assign rfl) (by decide) ?_   -- t8 := assign t21
  refine WL.val (Y.assign rfl) (by decide) ?_   -- t9 := assign t22
  refine WL.nil ?_
  refine hK2 _ _ ?_; try clear hK2 K2
  refine CW.seq fun K3 hK3 => ?_
  refine CW.seq fun K4 hK4 => ?_
  refine CW.region ?_   -- region 2
  refine WL.val (Y.move rfl) (by decide) ?_   -- t23 := move t9
  refine WL.val (Y.neq rfl rfl) (by decide) ?_   -- t24 := binOp neq 3 t23 c(0:i64) 3
  refine WL.nil ?_
  refine hK4 _ _ ?_; try clear hK4 K4
  first | refine CW.condD rfl (fun ht5 => ?_) (fun ht5 => ?_) | refine CW.condND rfl (fun ht5 => ?_) (fun ht5 => ?_) | refine CW.condN rfl (fun ht5 => ?_) (fun ht5 => ?_) | refine CW.cond rfl (fun ht5 => ?_) (fun ht5 => ?_)
  · -- then
    refine CW.seq fun K6 hK6 => ?_
    refine CW.region ?_   -- region 3
    refine WL.val (Y.build0 (build_apiOp _)) (by decide) ?_   -- t25 := build 57 []
    refine WL.val (Y.move rfl) (by decide) ?_   -- t26 := move t9
    refine WL.store (g := g4) (pre := []) (old := opC opZ) (post := []) (new := opC opZ) rfl rfl rfl rfl (sz_apiOp _) (by simpa using hB4) (by first | rfl | (simp [digC_length, opC_length]; done) | (simp only [digC_length, opC_length]; omega)) (one_opC) (fun w3 hc3 hB3_ => ?_)   -- _ := store 57 t4 t25
    have hz3 := hc3.size; have hE := hE.step hc3 (fun k h => by omega)
    have hB4 : Blk w3 g4 TO (opC opZ) := by simpa using hB3_
    refine WL.val (Y.assign rfl) (by decide) ?_   -- t5 := assign c(0:i64)
    refine WL.val (Y.assign rfl) (by decide) ?_   -- t6 := assign t26
    refine WL.nil ?_
    refine hK6 _ _ ?_; try clear hK6 K6
    refine CW.ret ?_
    have he := go_err (b := s.toList) (at_ := at_) (e := gE s.toList at_) (by simp only [gop, (gE_ne (by assumption)).1])
    exact ⟨_, _, _, rfl, hB4.mem, opC_length _, rfl, by (rw [he.1, he.2.1, he.2.2]; try rfl), hE⟩
  -- else
  refine CW.skip ?_
  refine hK3 _ _ ?_; try clear hK3 K3
  refine CW.seq fun K7 hK7 => ?_
  refine CW.seq fun K8 hK8 => ?_
  obtain ⟨n, a1, hg, hN, hX⟩ := gE_zero (bs := s.toList) (at_ := at_) (by omega)
  rw [hN, hX]
  have hlen := gnum_len hg (by omega)
  refine CW.region ?_   -- region 4
  refine WL.val (Y.move rfl) (by decide) ?_   -- t27 := move t7
  refine WL.val (Y.gtr rfl rfl) (by decide) ?_   -- t28 := binOp gtr 3 t27 c(11:i64) 3
  refine WL.nil ?_
  refine hK8 _ _ ?_; try clear hK8 K8
  first | refine CW.condD rfl (fun ht9 => ?_) (fun ht9 => ?_) | refine CW.condND rfl (fun ht9 => ?_) (fun ht9 => ?_) | refine CW.condN rfl (fun ht9 => ?_) (fun ht9 => ?_) | refine CW.cond rfl (fun ht9 => ?_) (fun ht9 => ?_)
  · -- then
    refine CW.seq fun K10 hK10 => ?_
    refine CW.region ?_   -- region 5
    refine WL.val (Y.build0 (build_apiOp _)) (by decide) ?_   -- t29 := build 57 []
    refine WL.store (g := g4) (pre := []) (old := opC opZ) (post := []) (new := opC opZ) rfl rfl rfl rfl (sz_apiOp _) (by simpa using hB4) (by first | rfl | (simp [digC_length, opC_length]; done) | (simp only [digC_length, opC_length]; omega)) (one_opC) (fun w4 hc4 hB4_ => ?_)   -- _ := store 57 t4 t29
    have hz4 := hc4.size; have hE := hE.step hc4 (fun k h => by omega)
    have hB4 : Blk w4 g4 TO (opC opZ) := by simpa using hB4_
    refine WL.val (Y.assign rfl) (by decide) ?_   -- t5 := assign c(0:i64)
    refine WL.val (Y.assign rfl) (by decide) ?_   -- t6 := assign c(7:i64)
    refine WL.nil ?_
    refine hK10 _ _ ?_; try clear hK10 K10
    refine CW.ret ?_
    have he := go_err (b := s.toList) (at_ := at_) (e := 7) (by simp only [gop, hg]; rw [if_pos (by omega)])
    exact ⟨_, _, _, rfl, hB4.mem, opC_length _, rfl, by (rw [he.1, he.2.1, he.2.2]; try rfl), hE⟩
  -- else
  refine CW.skip ?_
  refine hK7 _ _ ?_; try clear hK7 K7
  refine CW.seq fun K11 hK11 => ?_
  refine CW.region ?_   -- region 6
  refine WL.val (Y.move rfl) (by decide) ?_   -- t30 := move t7
  refine WL.val (Y.remN (q := 2) rfl rfl (by decide)) (by decide) ?_   -- t31 := binOp rem 3 t30 c(2:i64) 3
  refine WL.val (Y.add rfl rfl ⟨by omega, by omega⟩) (by decide) ?_   -- t32 := binOp add 3 c(1:i64) t31 3
  refine WL.val (Y.move rfl) (by decide) ?_   -- t33 := move t7
  refine WL.val (Y.quoN (q := 2) rfl rfl (by decide)) (by decide) ?_   -- t34 := binOp quo 3 t33 c(2:i64) 3
  refine WL.val (Y.remN (q := 2) rfl rfl (by decide)) (by decide) ?_   -- t35 := binOp rem 3 t34 c(2:i64) 3
  refine WL.val (Y.eql rfl rfl) (by decide) ?_   -- t36 := binOp eql 3 t35 c(1:i64) 3
  refine WL.val (Y.build rfl (build_op2 _ _ _)) (by decide) ?_   -- t37 := build 57 [(0,t32), (1,t36)]
  refine as_apiOp rfl (by simp) (by decide) fun g10 w5 hx5 hg10 hB10 => ?_   -- alloc 57; store 57 t10 t37
  have hlt10 := hB10.lt; have hz5 := hx5.size
  have hM10 := hB10.mem; have hz5 := hx5.size; have hE := hE.thenExt hx5; have hB4 := hB4.ext hx5
  refine WL.nil ?_
  refine hK11 _ _ ?_; try clear hK11 K11
  have hB10 : Blk w5 g10 TO (opC ⟨(if n % 2 = 0 then 1 else 2), (decide (n / 2 % 2 = 1)), ⟨false, Dig.zero, 0⟩, 0⟩) := by
    have e1 : (1 : Int) + ((n % 2 : Nat) : Int) = (if n % 2 = 0 then 1 else 2) := by split <;> omega
    have e2 : decide (((n / 2 % 2 : Nat) : Int) = 1) = decide (n / 2 % 2 = 1) := decide_eq_decide.2 (by omega)
    rw [e1, e2] at hB10
    exact hB10
  refine CW.seq_to (X := Dig × Nat) (fun x => [(0, .string s), (4, .pointer (some ⟨g4, 0, none⟩)), (7, .int .i64 (n : Int)), (8, .int .i64 (x.2 : Int)), (10, .pointer (some ⟨g10, 0, none⟩))]) (fun x w0 => Ext w w0 ∧ Blk w0 g4 TO (opC opZ) ∧ Blk w0 g10 TO (opC ⟨if n % 2 = 0 then 1 else 2, decide (n / 2 % 2 = 1), ⟨false, x.1, 0⟩, 0⟩) ∧ gopD s.toList n a1 = .ok (x.1, x.2) ∧ x.2 ≤ s.size) ?_ ?_
  · skip
    refine CW.seq fun K13 hK13 => ?_
    refine CW.region ?_   -- region 7
    refine WL.val (Y.move rfl) (by decide) ?_   -- t38 := move t7
    refine WL.val (Y.quoN (q := 4) rfl rfl (by decide)) (by decide) ?_   -- t39 := binOp quo 3 t38 c(4:i64) 3
    refine WL.val (Y.eql rfl rfl) (by decide) ?_   -- t40 := binOp eql 3 t39 c(2:i64) 3
    refine WL.nil ?_
    refine hK13 _ _ ?_; try clear hK13 K13
    first | refine CW.condD rfl (fun ht14 => ?_) (fun ht14 => ?_) | refine CW.condND rfl (fun ht14 => ?_) (fun ht14 => ?_) | refine CW.condN rfl (fun ht14 => ?_) (fun ht14 => ?_) | refine CW.cond rfl (fun ht14 => ?_) (fun ht14 => ?_)
    · -- then
      refine CW.seq fun K15 hK15 => ?_
      refine CW.region ?_   -- region 8
      refine WL.val (Y.move rfl) (by decide) ?_   -- t42 := move t0
      refine WL.val (Y.move rfl) (by decide) ?_   -- t43 := move t8
      refine WL.call Try.func57 rfl rfl rfl ((rDig_any s a1 _ (by omega) (by omega))) (by simp) ?_; rintro v w6 ⟨rfl, hx6⟩; have hz6 := hx6.size; have hE := hE.thenExt hx6; have hB4 := hB4.ext hx6; have hB10 := hB10.ext hx6   -- t44 := call F57(t42, t43) : 9,3
      refine WL.val (Y.move rfl) (by decide) ?_   -- t41 := move t44
      refine WL.val (Y.extract rfl rfl) (by decide) ?_   -- t45 := extract t41 0
      refine WL.val (Y.extract rfl rfl) (by decide) ?_   -- t46 := extract t41 1
      refine as_apiDigest rfl (by simp) (by decide) fun g11 w7 hx7 hg11 hB11 => ?_   -- alloc 51; store 51 t11 t45
      have hlt11 := hB11.lt; have hz7 := hx7.size
      have hM11 := hB11.mem; have hz7 := hx7.size; have hE := hE.thenExt hx7; have hB4 := hB4.ext hx7; have hB10 := hB10.ext hx7
      refine WL.val (Y.assign rfl) (by decide) ?_   -- t12 := assign t46
      refine WL.nil ?_
      refine hK15 _ _ ?_; try clear hK15 K15
      refine CW.seq fun K16 hK16 => ?_
      refine CW.seq fun K17 hK17 => ?_
      refine CW.region ?_   -- region 9
      refine WL.val (Y.move rfl) (by decide) ?_   -- t47 := move t12
      refine WL.val (Y.not rfl) (by decide) ?_   -- t48 := unOp not 4 t47
      refine WL.nil ?_
      refine hK17 _ _ ?_; try clear hK17 K17
      first | refine CW.condD rfl (fun ht18 => ?_) (fun ht18 => ?_) | refine CW.condND rfl (fun ht18 => ?_) (fun ht18 => ?_) | refine CW.condN rfl (fun ht18 => ?_) (fun ht18 => ?_) | refine CW.cond rfl (fun ht18 => ?_) (fun ht18 => ?_)
      · -- then
        refine CW.seq fun K19 hK19 => ?_
        refine CW.region ?_   -- region 10
        refine WL.val (Y.build0 (build_apiOp _)) (by decide) ?_   -- t49 := build 57 []
        refine WL.store (g := g4) (pre := []) (old := opC opZ) (post := []) (new := opC opZ) rfl rfl rfl rfl (sz_apiOp _) (by simpa using hB4) (by first | rfl | (simp [digC_length, opC_length]; done) | (simp only [digC_length, opC_length]; omega)) (one_opC) (fun w8 hc8 hB8_ => ?_)   -- _ := store 57 t4 t49
        have hz8 := hc8.size; have hE := hE.step hc8 (fun k h => by omega); have hB10 := hB10.chg hc8 (fun h => by omega); have hB11 := hB11.chg hc8 (fun h => by omega)
        have hB4 : Blk w8 g4 TO (opC opZ) := by simpa using hB8_
        refine WL.val (Y.assign rfl) (by decide) ?_   -- t5 := assign c(0:i64)
        refine WL.val (Y.assign rfl) (by decide) ?_   -- t6 := assign c(8:i64)
        refine WL.nil ?_
        refine hK19 _ _ ?_; try clear hK19 K19
        refine CW.ret ?_
        have he := go_err (b := s.toList) (at_ := at_) (e := 8) (by simp only [gop, hg]; rw [if_neg (by omega)]; simp only [gopD]; rw [if_pos (by omega), gdB_no (by first | assumption | (simp only [gdB, decide_eq_false_iff_not]; omega))])
        exact ⟨_, _, _, rfl, hB4.mem, opC_length _, rfl, by (rw [he.1, he.2.1, he.2.2]; try rfl), hE⟩
      -- else
      refine CW.skip ?_
      refine hK16 _ _ ?_; try clear hK16 K16
      refine CW.seq fun K20 hK20 => ?_
      refine CW.region ?_   -- region 11
      refine WL.val (Y.load Try.underlying51 rfl hB11.mem (sz_apiDigest _) rfl) (by decide) ?_   -- t50 := load 51 t11
      refine WL.val (Y.fieldAddr fo_apiOp2 rfl) (by decide) ?_   -- t51 := fieldAddr 57 t10 2
      refine WL.val (Y.fieldAddr fo_apiRef1 rfl) (by decide) ?_   -- t52 := fieldAddr 55 t51 1
      refine WL.store (g := g10) (pre := [.int .i64 (if n % 2 = 0 then 1 else 2), .bool (decide (n / 2 % 2 = 1)), .bool false]) (old := digC Dig.zero) (post := [.int .i64 0, bc 0]) (new := digC (gdD s.toList a1)) rfl (by rw [add_add, add_zero']; rfl) rfl rfl (sz_apiDigest _) (by rw [← opCs_c]; exact hB10) (by first | rfl | (simp [digC_length, opC_length]; done) | (simp only [digC_length, opC_length]; omega)) (one_digC) (fun w9 hc9 hB9_ => ?_)   -- _ := store 51 t52 t50
      have hz9 := hc9.size; have hE := hE.step hc9 (fun k h => by omega); have hB4 := hB4.chg hc9 (fun h => by omega); have hB11 := hB11.chg hc9 (fun h => by omega)
      rw [← opCs_c] at hB9_
      have hB10 := hB9_
      refine WL.nil ?_
      refine hK20 _ _ ?_; try clear hK20 K20
      refine CW.region ?_   -- region 12
      refine WL.val (Y.move rfl) (by decide) ?_   -- t53 := move t8
      refine WL.val (Y.add rfl rfl ⟨by omega, by omega⟩) (by decide) ?_   -- t54 := binOp add 3 t53 c(32:i64) 3
      refine WL.val (Y.assign rfl) (by decide) ?_   -- t8 := assign t54
      refine WL.nil ?_
      have hy := gdB_yes (b := s.toList) (at_ := a1) (by first | assumption | (simp only [gdB, decide_eq_true_eq]; omega))
      exact ⟨(gdD s.toList a1, a1 + 32), (by repeat (first | exact Fr.le.nil | refine Fr.le.cons rfl ?_)), hE, hB4, hB10, by simp only [gopD]; rw [if_pos (by omega), hy.1], by show a1 + 32 ≤ _; omega⟩
    -- else
    refine CW.skip ?_
    exact ⟨(Dig.zero, a1), (by repeat (first | exact Fr.le.nil | refine Fr.le.cons rfl ?_)), hE, hB4, hB10, by simp only [gopD]; rw [if_neg (by omega)], by show a1 ≤ _; omega⟩
  rintro u w10 hj10
  obtain ⟨d, a2⟩ := u
  dsimp only at hj10 ⊢
  obtain ⟨hE, hB4, hB10, hgd, ha2⟩ := hj10
  have e3 : decide (((n / 4 : Nat) : Int) = 1) = decide (n / 4 = 1) := decide_eq_decide.2 (by omega)
  refine CW.seq_to (X := Nat × Nat) (fun x => [(0, .string s), (4, .pointer (some ⟨g4, 0, none⟩)), (8, .int .i64 (x.2 : Int)), (10, .pointer (some ⟨g10, 0, none⟩))]) (fun x w0 => Ext w w0 ∧ Blk w0 g4 TO (opC opZ) ∧ Blk w0 g10 TO (opC ⟨if n % 2 = 0 then 1 else 2, decide (n / 2 % 2 = 1), ⟨decide (n / 4 = 1), d, (x.1 : Int)⟩, 0⟩) ∧ gopN s.toList n a2 = .ok (x.1, x.2) ∧ x.2 ≤ s.size) ?_ ?_
  · skip
    refine CW.seq fun K22 hK22 => ?_
    refine CW.region ?_   -- region 13
    refine WL.val (Y.move rfl) (by decide) ?_   -- t55 := move t7
    refine WL.val (Y.quoN (q := 4) rfl rfl (by decide)) (by decide) ?_   -- t56 := binOp quo 3 t55 c(4:i64) 3
    refine WL.val (Y.gtr rfl rfl) (by decide) ?_   -- t57 := binOp gtr 3 t56 c(0:i64) 3
    refine WL.nil ?_
    refine hK22 _ _ ?_; try clear hK22 K22
    first | refine CW.condD rfl (fun ht23 => ?_) (fun ht23 => ?_) | refine CW.condND rfl (fun ht23 => ?_) (fun ht23 => ?_) | refine CW.condN rfl (fun ht23 => ?_) (fun ht23 => ?_) | refine CW.cond rfl (fun ht23 => ?_) (fun ht23 => ?_)
    · -- then
      refine CW.seq fun K24 hK24 => ?_
      refine CW.region ?_   -- region 14
      refine WL.val (Y.move rfl) (by decide) ?_   -- t59 := move t0
      refine WL.val (Y.move rfl) (by decide) ?_   -- t60 := move t8
      refine WL.call Try.func40 rfl rfl rfl ((rGetNum_t s a2 _ (by omega) ha2)) (by simp) ?_; rintro v w11 ⟨rfl, hx11⟩; have hz11 := hx11.size; have hE := hE.thenExt hx11; have hB4 := hB4.ext hx11; have hB10 := hB10.ext hx11   -- t61 := call F40(t59, t60) : 9,3
      refine WL.val (Y.move rfl) (by decide) ?_   -- t58 := move t61
      refine WL.val (Y.extract rfl rfl) (by decide) ?_   -- t62 := extract t58 0
      refine WL.val (Y.extract rfl rfl) (by decide) ?_   -- t63 := extract t58 1
      refine WL.val (Y.extract rfl rfl) (by decide) ?_   -- t64 := extract t58 2
      refine WL.val (Y.assign rfl) (by decide) ?_   -- t13 := assign t62
      refine WL.val (Y.assign rfl) (by decide) ?_   -- t14 := assign t63
      refine WL.val (Y.assign rfl) (by decide) ?_   -- t15 := assign t64
      refine WL.nil ?_
      refine hK24 _ _ ?_; try clear hK24 K24
      refine CW.seq fun K25 hK25 => ?_
      refine CW.seq fun K26 hK26 => ?_
      refine CW.region ?_   -- region 15
      refine WL.val (Y.move rfl) (by decide) ?_   -- t65 := move t15
      refine WL.val (Y.neq rfl rfl) (by decide) ?_   -- t66 := binOp neq 3 t65 c(0:i64) 3
      refine WL.nil ?_
      refine hK26 _ _ ?_; try clear hK26 K26
      first | refine CW.condD rfl (fun ht27 => ?_) (fun ht27 => ?_) | refine CW.condND rfl (fun ht27 => ?_) (fun ht27 => ?_) | refine CW.condN rfl (fun ht27 => ?_) (fun ht27 => ?_) | refine CW.cond rfl (fun ht27 => ?_) (fun ht27 => ?_)
      · -- then
        refine CW.seq fun K28 hK28 => ?_
        refine CW.region ?_   -- region 16
        refine WL.val (Y.build0 (build_apiOp _)) (by decide) ?_   -- t67 := build 57 []
        refine WL.val (Y.move rfl) (by decide) ?_   -- t68 := move t15
        refine WL.store (g := g4) (pre := []) (old := opC opZ) (post := []) (new := opC opZ) rfl rfl rfl rfl (sz_apiOp _) (by simpa using hB4) (by first | rfl | (simp [digC_length, opC_length]; done) | (simp only [digC_length, opC_length]; omega)) (one_opC) (fun w12 hc12 hB12_ => ?_)   -- _ := store 57 t4 t67
        have hz12 := hc12.size; have hE := hE.step hc12 (fun k h => by omega); have hB10 := hB10.chg hc12 (fun h => by omega)
        have hB4 : Blk w12 g4 TO (opC opZ) := by simpa using hB12_
        refine WL.val (Y.assign rfl) (by decide) ?_   -- t5 := assign c(0:i64)
        refine WL.val (Y.assign rfl) (by decide) ?_   -- t6 := assign t68
        refine WL.nil ?_
        refine hK28 _ _ ?_; try clear hK28 K28
        refine CW.ret ?_
        have he := go_err (b := s.toList) (at_ := at_) (e := gE s.toList a2) (by simp only [gop, hg]; rw [if_neg (by omega), hgd]; simp only [gopN]; rw [if_pos (by omega), (gE_ne (by assumption)).1])
        exact ⟨_, _, _, rfl, hB4.mem, opC_length _, rfl, by (rw [he.1, he.2.1, he.2.2]; try rfl), hE⟩
      -- else
      refine CW.skip ?_
      refine hK25 _ _ ?_; try clear hK25 K25
      refine CW.seq fun K29 hK29 => ?_
      refine CW.seq fun K30 hK30 => ?_
      obtain ⟨k, a3, hg2, hN2, hX2⟩ := gE_zero (bs := s.toList) (at_ := a2) (by omega)
      rw [hN2, hX2]
      have hlen2 := gnum_len hg2 (by omega)
      refine CW.region ?_   -- region 17
      refine WL.val (Y.move rfl) (by decide) ?_   -- t69 := move t13
      refine WL.val (Y.eql rfl rfl) (by decide) ?_   -- t70 := binOp eql 3 t69 c(0:i64) 3
      refine WL.nil ?_
      refine hK30 _ _ ?_; try clear hK30 K30
      first | refine CW.condD rfl (fun ht31 => ?_) (fun ht31 => ?_) | refine CW.condND rfl (fun ht31 => ?_) (fun ht31 => ?_) | refine CW.condN rfl (fun ht31 => ?_) (fun ht31 => ?_) | refine CW.cond rfl (fun ht31 => ?_) (fun ht31 => ?_)
      · -- then
        refine CW.seq fun K32 hK32 => ?_
        refine CW.region ?_   -- region 18
        refine WL.val (Y.build0 (build_apiOp _)) (by decide) ?_   -- t71 := build 57 []
        refine WL.store (g := g4) (pre := []) (old := opC opZ) (post := []) (new := opC opZ) rfl rfl rfl rfl (sz_apiOp _) (by simpa using hB4) (by first | rfl | (simp [digC_length, opC_length]; done) | (simp only [digC_length, opC_length]; omega)) (one_opC) (fun w13 hc13 hB13_ => ?_)   -- _ := store 57 t4 t71
        have hz13 := hc13.size; have hE := hE.step hc13 (fun k h => by omega); have hB10 := hB10.chg hc13 (fun h => by omega)
        have hB4 : Blk w13 g4 TO (opC opZ) := by simpa using hB13_
        refine WL.val (Y.assign rfl) (by decide) ?_   -- t5 := assign c(0:i64)
        refine WL.val (Y.assign rfl) (by decide) ?_   -- t6 := assign c(7:i64)
        refine WL.nil ?_
        refine hK32 _ _ ?_; try clear hK32 K32
        refine CW.ret ?_
        have he := go_err (b := s.toList) (at_ := at_) (e := 7) (by simp only [gop, hg]; rw [if_neg (by omega), hgd]; simp only [gopN]; rw [if_pos (by omega), hg2]; simp only []; rw [if_pos (by omega)])
        exact ⟨_, _, _, rfl, hB4.mem, opC_length _, rfl, by (rw [he.1, he.2.1, he.2.2]; try rfl), hE⟩
      -- else
      refine CW.skip ?_
      refine hK29 _ _ ?_; try clear hK29 K29
      refine CW.seq fun K33 hK33 => ?_
      refine CW.region ?_   -- region 19
      refine WL.val (Y.move rfl) (by decide) ?_   -- t72 := move t7
      refine WL.val (Y.quoN (q := 4) rfl rfl (by decide)) (by decide) ?_   -- t73 := binOp quo 3 t72 c(4:i64) 3
      refine WL.val (Y.eql rfl rfl) (by decide) ?_   -- t74 := binOp eql 3 t73 c(1:i64) 3
      refine WL.val (Y.fieldAddr fo_apiOp2 rfl) (by decide) ?_   -- t75 := fieldAddr 57 t10 2
      refine WL.val (Y.fieldAddr fo_apiRef0 rfl) (by decide) ?_   -- t76 := fieldAddr 55 t75 0
      refine WL.store (g := g10) (pre := [.int .i64 (if n % 2 = 0 then 1 else 2), .bool (decide (n / 2 % 2 = 1))]) (old := [.bool false]) (post := digC d ++ [.int .i64 0, bc 0]) (new := [.bool (decide (((n / 4 : Nat) : Int) = 1))]) rfl (by rw [add_add, add_zero']; rfl) rfl rfl (by kernel_rfl) (by rw [← opCs_own]; exact hB10) (by first | rfl | (simp [digC_length, opC_length]; done) | (simp only [digC_length, opC_length]; omega)) (one1 rfl) (fun w14 hc14 hB14_ => ?_)   -- _ := store 4 t76 t74
      have hz14 := hc14.size; have hE := hE.step hc14 (fun k h => by omega); have hB4 := hB4.chg hc14 (fun h => by omega)
      rw [← opCs_own, e3] at hB14_
      have hB10 := hB14_
      refine WL.nil ?_
      refine hK33 _ _ ?_; try clear hK33 K33
      refine CW.seq fun K34 hK34 => ?_
      refine CW.region ?_   -- region 20
      refine WL.val (Y.move rfl) (by decide) ?_   -- t77 := move t13
      refine WL.val (Y.fieldAddr fo_apiOp2 rfl) (by decide) ?_   -- t78 := fieldAddr 57 t10 2
      refine WL.val (Y.fieldAddr fo_apiRef2 rfl) (by decide) ?_   -- t79 := fieldAddr 55 t78 2
      refine WL.store (g := g10) (pre := (.int .i64 (if n % 2 = 0 then 1 else 2) :: .bool (decide (n / 2 % 2 = 1)) :: .bool (decide (n / 4 = 1)) :: digC d)) (old := [.int .i64 0]) (post := [bc 0]) (new := [.int .i64 (k : Int)]) rfl (by rw [add_add, add_zero']; simp [digC_length]) rfl rfl (by kernel_rfl) (by rw [← opCs_n]; exact hB10) (by first | rfl | (simp [digC_length, opC_length]; done) | (simp only [digC_length, opC_length]; omega)) (one1 rfl) (fun w15 hc15 hB15_ => ?_)   -- _ := store 3 t79 t77
      have hz15 := hc15.size; have hE := hE.step hc15 (fun k h => by omega); have hB4 := hB4.chg hc15 (fun h => by omega)
      rw [← opCs_n] at hB15_
      have hB10 := hB15_
      refine WL.nil ?_
      refine hK34 _ _ ?_; try clear hK34 K34
      refine CW.region ?_   -- region 21
      refine WL.val (Y.move rfl) (by decide) ?_   -- t80 := move t14
      refine WL.val (Y.assign rfl) (by decide) ?_   -- t8 := assign t80
      refine WL.nil ?_
      exact ⟨(k, a3), (by repeat (first | exact Fr.le.nil | refine Fr.le.cons rfl ?_)), hE, hB4, hB10, by simp only [gopN]; rw [if_pos (by omega), hg2]; simp only []; rw [if_neg (by omega)], by show a3 ≤ _; omega⟩
    -- else
    refine CW.skip ?_
    exact ⟨(0, a2), (by repeat (first | exact Fr.le.nil | refine Fr.le.cons rfl ?_)), hE, hB4, by rw [decide_eq_false (p := n / 4 = 1) (by omega)]; exact hB10, by simp only [gopN]; rw [if_neg (by omega)], by show a2 ≤ _; omega⟩
  rintro u w16 hj16
  obtain ⟨k, a3⟩ := u
  dsimp only at hj16 ⊢
  obtain ⟨hE, hB4, hB10, hgn, ha3⟩ := hj16
  refine CW.seq_to (X := UInt8 × Nat) (fun x => [(4, .pointer (some ⟨g4, 0, none⟩)), (8, .int .i64 (x.2 : Int)), (10, .pointer (some ⟨g10, 0, none⟩))]) (fun x w0 => Ext w w0 ∧ Blk w0 g4 TO (opC opZ) ∧ Blk w0 g10 TO (opC ⟨if n % 2 = 0 then 1 else 2, decide (n / 2 % 2 = 1), ⟨decide (n / 4 = 1), d, (k : Int)⟩, x.1⟩) ∧ gopB s.toList n a3 = .ok (x.1, x.2) ∧ x.2 ≤ s.size) ?_ ?_
  · skip
    refine CW.seq fun K36 hK36 => ?_
    refine CW.region ?_   -- region 22
    refine WL.val (Y.fieldAddr fo_apiOp0 rfl) (by decide) ?_   -- t81 := fieldAddr 57 t10 0
    refine WL.val (Y.load1 Try.underlying3 rfl hB10.mem.op0 rfl) (by decide) ?_   -- t82 := load 3 t81
    refine WL.val (Y.eql rfl rfl) (by decide) ?_   -- t83 := binOp eql 3 t82 c(1:i64) 3
    refine WL.nil ?_
    refine hK36 _ _ ?_; try clear hK36 K36
    first | refine CW.condD rfl (fun ht37 => ?_) (fun ht37 => ?_) | refine CW.condND rfl (fun ht37 => ?_) (fun ht37 => ?_) | refine CW.condN rfl (fun ht37 => ?_) (fun ht37 => ?_) | refine CW.cond rfl (fun ht37 => ?_) (fun ht37 => ?_)
    · -- then
      refine CW.seq fun K38 hK38 => ?_
      refine CW.seq fun K39 hK39 => ?_
      have h2 : n % 2 = 0 := by false_or_by_contra; simp_all
      refine CW.region ?_   -- region 23
      refine WL.val (Y.move rfl) (by decide) ?_   -- t84 := move t8
      refine WL.val (Y.move rfl) (by decide) ?_   -- t85 := move t0
      refine WL.val (Y.len_string Try.underlying9 rfl) (by decide) ?_   -- t86 := call len(t85) : 9
      refine WL.val (Y.geq rfl rfl) (by decide) ?_   -- t87 := binOp geq 3 t84 t86 3
      refine WL.nil ?_
      refine hK39 _ _ ?_; try clear hK39 K39
      first | refine CW.condD rfl (fun ht40 => ?_) (fun ht40 => ?_) | refine CW.condND rfl (fun ht40 => ?_) (fun ht40 => ?_) | refine CW.condN rfl (fun ht40 => ?_) (fun ht40 => ?_) | refine CW.cond rfl (fun ht40 => ?_) (fun ht40 => ?_)
      · -- then
        refine CW.seq fun K41 hK41 => ?_
        refine CW.region ?_   -- region 24
        refine WL.val (Y.build0 (build_apiOp _)) (by decide) ?_   -- t88 := build 57 []
        refine WL.store (g := g4) (pre := []) (old := opC opZ) (post := []) (new := opC opZ) rfl rfl rfl rfl (sz_apiOp _) (by simpa using hB4) (by first | rfl | (simp [digC_length, opC_length]; done) | (simp only [digC_length, opC_length]; omega)) (one_opC) (fun w17 hc17 hB17_ => ?_)   -- _ := store 57 t4 t88
        have hz17 := hc17.size; have hE := hE.step hc17 (fun k h => by omega); have hB10 := hB10.chg hc17 (fun h => by omega)
        have hB4 : Blk w17 g4 TO (opC opZ) := by simpa using hB17_
        refine WL.val (Y.assign rfl) (by decide) ?_   -- t5 := assign c(0:i64)
        refine WL.val (Y.assign rfl) (by decide) ?_   -- t6 := assign c(8:i64)
        refine WL.nil ?_
        refine hK41 _ _ ?_; try clear hK41 K41
        refine CW.ret ?_
        have he := go_err (b := s.toList) (at_ := at_) (e := 8) (by simp only [gop, hg]; rw [if_neg (by omega), hgd]; simp only []; rw [hgn]; simp only [gopB]; rw [if_pos h2, List.getElem?_eq_none (by omega)])
        exact ⟨_, _, _, rfl, hB4.mem, opC_length _, rfl, by (rw [he.1, he.2.1, he.2.2]; try rfl), hE⟩
      -- else
      refine CW.skip ?_
      refine hK38 _ _ ?_; try clear hK38 K38
      refine CW.seq fun K42 hK42 => ?_
      refine CW.region ?_   -- region 25
      refine WL.val (Y.move rfl) (by decide) ?_   -- t89 := move t0
      refine WL.val (Y.move rfl) (by decide) ?_   -- t90 := move t8
      refine WL.val (Y.index_string (i := a3) Try.underlying9 rfl rfl (by omega)) (by decide) ?_   -- t91 := index 9 t89 t90
      refine WL.val (Y.fieldAddr fo_apiOp3 rfl) (by decide) ?_   -- t92 := fieldAddr 57 t10 3
      refine WL.store (g := g10) (pre := (.int .i64 (if n % 2 = 0 then 1 else 2) :: .bool (decide (n / 2 % 2 = 1)) :: .bool (decide (n / 4 = 1)) :: (digC d ++ [.int .i64 (k : Int)]))) (old := [bc 0]) (post := []) (new := [bc s[a3]]) rfl (by rw [add_zero']; simp [digC_length]) rfl rfl (by kernel_rfl) (by rw [← opCs_b]; exact hB10) (by first | rfl | (simp [digC_length, opC_length]; done) | (simp only [digC_length, opC_length]; omega)) (one1 rfl) (fun w18 hc18 hB18_ => ?_)   -- _ := store 5 t92 t91
      have hz18 := hc18.size; have hE := hE.step hc18 (fun k h => by omega); have hB4 := hB4.chg hc18 (fun h => by omega)
      rw [← opCs_b] at hB18_
      have hB10 := hB18_
      refine WL.nil ?_
      refine hK42 _ _ ?_; try clear hK42 K42
      refine CW.region ?_   -- region 26
      refine WL.val (Y.move rfl) (by decide) ?_   -- t93 := move t8
      refine WL.val (Y.add rfl rfl ⟨by omega, by omega⟩) (by decide) ?_   -- t94 := binOp add 3 t93 c(1:i64) 3
      refine WL.val (Y.assign rfl) (by decide) ?_   -- t8 := assign t94
      refine WL.nil ?_
      exact ⟨(s[a3], a3 + 1), (by repeat (first | exact Fr.le.nil | refine Fr.le.cons rfl ?_)), hE, hB4, hB10, by simp only [gopB]; rw [if_pos h2, get_toList (by omega)], by show a3 + 1 ≤ _; omega⟩
    -- else
    refine CW.skip ?_
    have h2 : ¬ n % 2 = 0 := by intro h; simp_all
    exact ⟨(0, a3), (by repeat (first | exact Fr.le.nil | refine Fr.le.cons rfl ?_)), hE, hB4, hB10, by simp only [gopB]; rw [if_neg h2], by show a3 ≤ _; omega⟩
  rintro u w19 hj19
  obtain ⟨b, a4⟩ := u
  dsimp only at hj19 ⊢
  obtain ⟨hE, hB4, hB10, hgb, ha4⟩ := hj19
  refine CW.seq fun K43 hK43 => ?_
  refine CW.region ?_   -- region 27
  refine WL.val (Y.load Try.underlying57 rfl hB10.mem (sz_apiOp _) rfl) (by decide) ?_   -- t95 := load 57 t10
  refine WL.val (Y.move rfl) (by decide) ?_   -- t96 := move t8
  refine WL.store (g := g4) (pre := []) (old := opC opZ) (post := []) (new := opC ⟨(if n % 2 = 0 then 1 else 2), (decide (n / 2 % 2 = 1)), ⟨(decide (n / 4 = 1)), d, (k : Int)⟩, b⟩) rfl rfl rfl rfl (sz_apiOp _) (by simpa using hB4) (by first | rfl | (simp [digC_length, opC_length]; done) | (simp only [digC_length, opC_length]; omega)) (one_opC) (fun w20 hc20 hB20_ => ?_)   -- _ := store 57 t4 t95
  have hz20 := hc20.size; have hE := hE.step hc20 (fun k h => by omega); have hB10 := hB10.chg hc20 (fun h => by omega)
  have hB4 : Blk w20 g4 TO (opC ⟨(if n % 2 = 0 then 1 else 2), (decide (n / 2 % 2 = 1)), ⟨(decide (n / 4 = 1)), d, (k : Int)⟩, b⟩) := by simpa using hB20_
  refine WL.val (Y.assign rfl) (by decide) ?_   -- t5 := assign t96
  refine WL.val (Y.assign rfl) (by decide) ?_   -- t6 := assign c(0:i64)
  refine WL.nil ?_
  refine hK43 _ _ ?_; try clear hK43 K43
  refine CW.ret ?_
  have he := go_ok (b := s.toList) (at_ := at_) (x := ⟨(if n % 2 = 0 then 1 else 2), (decide (n / 2 % 2 = 1)), ⟨(decide (n / 4 = 1)), d, (k : Int)⟩, b⟩) (a := a4) (by simp only [gop, hg]; rw [if_neg (by omega), hgd]; simp only []; rw [hgn]; simp only []; rw [hgb])
  exact ⟨_, _, _, rfl, hB4.mem, opC_length _, rfl, by (rw [he.1, he.2.1, he.2.2]; try rfl), hE⟩
end Go.Proofs.Ytfbagecopapfhaa
