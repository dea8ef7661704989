/- The reference's bytes of a commit, walked: Num, Text, bytes, op. No condition. -/
import Derived.Test.YtfbagecopapfhaaDoorTr
import Derived.Test.YtfbagecopapfhaaDoorEn
import Derived.Test.YtfbagecopapfhaaDoorRq
set_option linter.unusedSimpArgs false
set_option linter.unusedVariables false
namespace Go.Pl
open Go.Fw
def outB (x : OpD) : List UInt8 := if x.at_.own = true then numB x.at_.n else if rootB x.at_ = true then [] else x.at_.c.1 ++ numB x.at_.n
theorem opB_out (x : OpD) : opB x = numB (flagI x) ++ outB x ++ (if x.kind = 1 then [x.byte] else []) := by
  unfold opB outB
  by_cases a : x.at_.own = true <;> by_cases b : rootB x.at_ = true <;> simp [a, b]
theorem kind_cases {r : RefD} (h : refB r = true) : (refKind r = 1 ∧ r.own = true) ∨ (refKind r = 2 ∧ r.own = false ∧ rootB r = false) ∨ (refKind r = 0 ∧ r.own = false ∧ rootB r = true) := by
  have h0 := rk0 r
  have h1 := rk1 r
  have h3 := rk3 r
  have hr := root_iff r
  by_cases ho : r.own = true
  · exact .inl ⟨h1.2 ⟨ho, h⟩, ho⟩
  · have ho' : r.own = false := by simpa using ho
    by_cases hb : rootB r = true
    · exact .inr (.inr ⟨h0.2 hb, ho', hb⟩)
    · refine .inr (.inl ⟨?_, ho', by simpa using hb⟩)
      have n0 : refKind r ≠ 0 := fun e => hb (h0.1 e)
      have n3 : refKind r ≠ 3 := fun e => by rw [h3.1 e] at h; cases h
      simp only [refKind, ho', Bool.false_eq_true, if_false] at n0 n3 ⊢
      split
      · rfl
      · rename_i h5
        rw [if_neg h5] at n0 n3
        split at n0
        · exact absurd rfl n0
        · rename_i h6
          rw [if_neg h6] at n3
          exact absurd rfl n3
theorem kc1 {r : RefD} (h1 : refKind r = 1) : r.own = true := ((rk1 r).1 h1).1
theorem kc2 {r : RefD} (h : refB r = true) (h1 : refKind r = 2) : r.own = false ∧ rootB r = false := by
  rcases kind_cases h with h | h | h
  · omega
  · exact h.2
  · omega
theorem kc0 {r : RefD} (h : refB r = true) (h1 : ¬ refKind r = 1) (h2 : ¬ refKind r = 2) : r.own = false ∧ rootB r = true := by
  rcases kind_cases h with h | h | h
  · exact absurd h.1 h1
  · exact absurd h.1 h2
  · exact h.2
theorem outB_len {x : OpD} (h : x.at_.n < 9223372036854775808) : (outB x).length ≤ 41 := by
  have h2 := numB_len h
  have h3 := x.at_.c.2
  unfold outB
  split
  · omega
  · split
    · simp
    · rw [List.length_append]; omega
end Go.Pl
namespace Go.Proofs.YtfbagecopapfhaaDoor
open Go.RowKit Go.Fw Go.Pl

theorem rNum_any (n : Nat) (w : World) (hn : n < 9223372036854775808) : Calls Tryd.prog 20 #[.int .i64 (n : Int)] w (Ret fun v w' => v = .string (bs (vi n)) ∧ Ext w w') := by
  revert hn
  revert w
  refine Nat.strongRecOn n ?_
  clear n
  intro n ih w hn
  refine calls_of_CW 19 [2] [(0, .int .i64 (n : Int))] Tryd.func20 rfl rfl rfl (by simp) args1 ?_
  have hE : Ext w w := Chg.refl
  refine CW.seq fun K1 hK1 => ?_
  refine CW.region ?_   -- region 0
  refine WL.val (Y.assign rfl) (by decide) ?_   -- t2 := assign c(STR)
  refine WL.nil ?_
  refine hK1 _ _ ?_; try clear hK1 K1
  refine CW.seq fun K2 hK2 => ?_
  refine CW.seq fun K3 hK3 => ?_
  refine CW.region ?_   -- region 1
  refine WL.val (Y.move rfl) (by decide) ?_   -- t3 := move t0
  refine WL.val (Y.lss rfl rfl) (by decide) ?_   -- t4 := binOp lss 3 t3 c(128:i64) 3
  refine WL.nil ?_
  refine hK3 _ _ ?_; try clear hK3 K3
  first | refine CW.condD rfl (fun ht4 => ?_) (fun ht4 => ?_) | refine CW.condND rfl (fun ht4 => ?_) (fun ht4 => ?_) | refine CW.condN rfl (fun ht4 => ?_) (fun ht4 => ?_) | refine CW.cond rfl (fun ht4 => ?_) (fun ht4 => ?_)
  · -- then
    refine CW.seq fun K5 hK5 => ?_
    refine CW.region ?_   -- region 2
    refine WL.val (Y.move rfl) (by decide) ?_   -- t5 := move t0
    refine WL.val (Y.conv_int Tryd.underlying3 Tryd.underlying5 rfl) (by decide) ?_   -- t6 := convert 3 5 t5
    refine WL.st (St.buildSlice rfl (bs1 _)) (by decide) fun v7 w1 hR1 => ?_   -- t7 := buildSlice 27 1 [(0,t6)]
    obtain ⟨g, rfl, hg, hB, hx⟩ := hR1
    rw [u8_of] at hB
    refine WL.val (Y.bytes_string Tryd.underlying27 Tryd.underlying5 Tryd.underlying9 rfl (l := [UInt8.ofNat n]) rfl (fun _ => ⟨_, rfl, hB.mem⟩) (fun h => by cases h)) (by decide) ?_   -- t8 := convert 27 9 t7
    refine WL.val (Y.assign rfl) (by decide) ?_   -- t2 := assign t8
    refine WL.nil ?_
    refine hK5 _ _ ?_; try clear hK5 K5
    refine CW.ret ⟨_, rfl, ?_⟩
    exact ⟨by rw [vi_lt (by omega)], hE.thenExt hx⟩
  -- else
  refine CW.skip ?_
  refine hK2 _ _ ?_; try clear hK2 K2
  refine CW.seq fun K6 hK6 => ?_
  refine CW.held (fun wq => Ext w wq) (by kernel_rfl) 11 rfl fun w2 hS => ?_
  refine RH.take 0 (fun _ _ _ _ h => h) (by kernel_rfl) hS rfl (by kernel_rfl) (by kernel_rfl) (fun wq hq => Y.move rfl) (by decide) ?_   -- t9 := move t0
  refine RH.take 1 (fun _ _ _ _ h => h) (by kernel_rfl) hS rfl (by kernel_rfl) (by kernel_rfl) (fun wq hq => Y.remN (q := 128) rfl rfl (by decide)) (by decide) ?_   -- t10 := binOp rem 3 t9 c(128:i64) 3
  refine RH.take 2 (fun _ _ _ _ h => h) (by kernel_rfl) hS rfl (by kernel_rfl) (by kernel_rfl) (fun wq hq => Y.add rfl rfl ⟨by omega, by omega⟩) (by decide) ?_   -- t11 := binOp add 3 t10 c(128:i64) 3
  refine RH.take 3 (fun _ _ _ _ h => h) (by kernel_rfl) hS rfl (by kernel_rfl) (by kernel_rfl) (fun wq hq => Y.conv_int Tryd.underlying3 Tryd.underlying5 rfl) (by decide) ?_   -- t12 := convert 3 5 t11
  refine RH.take 6 (fun _ _ _ _ h => h) (by kernel_rfl) hS rfl (by kernel_rfl) (by kernel_rfl) (fun wq hq => Y.move rfl) (by decide) ?_   -- t15 := move t0
  refine RH.take 7 (fun _ _ _ _ h => h) (by kernel_rfl) hS rfl (by kernel_rfl) (by kernel_rfl) (fun wq hq => Y.quoN (q := 128) rfl rfl (by decide)) (by decide) ?_   -- t16 := binOp quo 3 t15 c(128:i64) 3
  refine RH.two 4 8 (by kernel_rfl) ?_ ?_
  · skip
    refine RS.st rfl (St.buildSlice rfl (bs1 _)) (by decide) fun v13 w3 hR3 => ?_   -- buildSlice 27 1 [(0,t12)]
    obtain ⟨g, rfl, hg, hB, hx⟩ := hR3
    rw [show ((n % 128 : Nat) : Int) + 128 = ((n % 128 + 128 : Nat) : Int) by omega, u8_of] at hB
    have hS := hS.thenExt hx
    refine ⟨hS, ?_⟩
    refine RH.two 5 8 (by kernel_rfl) ?_ ?_
    · skip
      refine RS.val rfl (Y.bytes_string Tryd.underlying27 Tryd.underlying5 Tryd.underlying9 rfl (l := [UInt8.ofNat (n % 128 + 128)]) rfl (fun _ => ⟨_, rfl, hB.mem⟩) (fun h => by cases h)) (by decide) ⟨hS, ?_⟩   -- t14 := convert 27 9 t13
      refine RH.one 8 (by kernel_rfl) ?_
      refine RS.call rfl (fun _ _ h => by cases h) Tryd.func20 rfl rfl rfl (ih (n / 128) (by omega) _ (by omega)) (by decide) fun v17 w4 hR4 => ?_   -- call F20(t16) : 3
      obtain ⟨rfl, hy⟩ := hR4
      have hS := hS.thenExt hy
      refine ⟨hS, ?_⟩
      refine RH.take 9 (fun _ _ _ _ h => h) (by kernel_rfl) hS rfl (by kernel_rfl) (by kernel_rfl) (fun wq hq => Y.addS rfl rfl (by rw [bs_size, bs_size]; have := vi_len9 (n := n / 128) (by omega); simp only [List.length_cons, List.length_nil]; omega)) (by decide) ?_   -- t18 := binOp add 9 t14 t17 9
      refine RH.take 10 (fun _ _ _ _ h => h) (by kernel_rfl) hS rfl (by kernel_rfl) (by kernel_rfl) (fun wq hq => Y.assign rfl) (by decide) ?_   -- t2 := assign t18
      refine RH.done (by kernel_rfl) ?_
      have hx5 := hS; have hz5 := hx5.size; have hE := hE.thenExt hx5
      refine hK6 _ _ ?_; try clear hK6 K6
      refine CW.ret ⟨_, rfl, ?_⟩
      exact ⟨by rw [bs_append, vi_ge (n := n) (by omega)]; rfl, hE⟩
    · skip
      refine RS.call rfl (fun _ _ h => by cases h) Tryd.func20 rfl rfl rfl (ih (n / 128) (by omega) _ (by omega)) (by decide) fun v17 w6 hR6 => ?_   -- call F20(t16) : 3
      obtain ⟨rfl, hy⟩ := hR6
      have hS := hS.thenExt hy
      refine ⟨hS, ?_⟩
      refine RH.one 5 (by kernel_rfl) ?_
      refine RS.val rfl (Y.bytes_string Tryd.underlying27 Tryd.underlying5 Tryd.underlying9 rfl (l := [UInt8.ofNat (n % 128 + 128)]) rfl (fun _ => ⟨_, rfl, (hB.ext hy).mem⟩) (fun h => by cases h)) (by decide) ⟨hS, ?_⟩   -- t14 := convert 27 9 t13
      refine RH.take 9 (fun _ _ _ _ h => h) (by kernel_rfl) hS rfl (by kernel_rfl) (by kernel_rfl) (fun wq hq => Y.addS rfl rfl (by rw [bs_size, bs_size]; have := vi_len9 (n := n / 128) (by omega); simp only [List.length_cons, List.length_nil]; omega)) (by decide) ?_   -- t18 := binOp add 9 t14 t17 9
      refine RH.take 10 (fun _ _ _ _ h => h) (by kernel_rfl) hS rfl (by kernel_rfl) (by kernel_rfl) (fun wq hq => Y.assign rfl) (by decide) ?_   -- t2 := assign t18
      refine RH.done (by kernel_rfl) ?_
      have hx7 := hS; have hz7 := hx7.size; have hE := hE.thenExt hx7
      refine hK6 _ _ ?_; try clear hK6 K6
      refine CW.ret ⟨_, rfl, ?_⟩
      exact ⟨by rw [bs_append, vi_ge (n := n) (by omega)]; rfl, hE⟩
  · skip
    refine RS.call rfl (fun _ _ h => by cases h) Tryd.func20 rfl rfl rfl (ih (n / 128) (by omega) _ (by omega)) (by decide) fun v17 w8 hR8 => ?_   -- call F20(t16) : 3
    obtain ⟨rfl, hy⟩ := hR8
    have hS := hS.thenExt hy
    refine ⟨hS, ?_⟩
    refine RH.one 4 (by kernel_rfl) ?_
    refine RS.st rfl (St.buildSlice rfl (bs1 _)) (by decide) fun v13 w9 hR9 => ?_   -- buildSlice 27 1 [(0,t12)]
    obtain ⟨g, rfl, hg, hB, hx⟩ := hR9
    rw [show ((n % 128 : Nat) : Int) + 128 = ((n % 128 + 128 : Nat) : Int) by omega, u8_of] at hB
    have hS := hS.thenExt hx
    refine ⟨hS, ?_⟩
    refine RH.one 5 (by kernel_rfl) ?_
    refine RS.val rfl (Y.bytes_string Tryd.underlying27 Tryd.underlying5 Tryd.underlying9 rfl (l := [UInt8.ofNat (n % 128 + 128)]) rfl (fun _ => ⟨_, rfl, hB.mem⟩) (fun h => by cases h)) (by decide) ⟨hS, ?_⟩   -- t14 := convert 27 9 t13
    refine RH.take 9 (fun _ _ _ _ h => h) (by kernel_rfl) hS rfl (by kernel_rfl) (by kernel_rfl) (fun wq hq => Y.addS rfl rfl (by rw [bs_size, bs_size]; have := vi_len9 (n := n / 128) (by omega); simp only [List.length_cons, List.length_nil]; omega)) (by decide) ?_   -- t18 := binOp add 9 t14 t17 9
    refine RH.take 10 (fun _ _ _ _ h => h) (by kernel_rfl) hS rfl (by kernel_rfl) (by kernel_rfl) (fun wq hq => Y.assign rfl) (by decide) ?_   -- t2 := assign t18
    refine RH.done (by kernel_rfl) ?_
    have hx10 := hS; have hz10 := hx10.size; have hE := hE.thenExt hx10
    refine hK6 _ _ ?_; try clear hK6 K6
    refine CW.ret ⟨_, rfl, ?_⟩
    exact ⟨by rw [bs_append, vi_ge (n := n) (by omega)]; rfl, hE⟩
theorem rNum_i (i : Int) (w : World) (h0 : 0 ≤ i) (hn : i < 9223372036854775808) : Calls Tryd.prog 20 #[.int .i64 i] w (Ret fun v w' => v = .string (bs (numB i)) ∧ Ext w w') := by
  obtain ⟨n, rfl⟩ : ∃ n : Nat, i = (n : Int) := ⟨i.toNat, by omega⟩
  rw [numB_nat]
  exact rNum_any n w (by omega)

theorem rText_any (s : ByteArray) (w : World) (hn : s.size ≤ 140737488351232) : Calls Tryd.prog 22 #[.string s] w (Ret fun v w' => v = .string (bs (textB s.toList)) ∧ Ext w w') := by
  refine calls_of_CW 8 [2] [(0, .string s)] Tryd.func22 rfl rfl rfl (by simp) args1 ?_
  have hE : Ext w w := Chg.refl
  refine CW.seq fun K1 hK1 => ?_
  refine CW.region ?_   -- region 0
  refine WL.val (Y.assign rfl) (by decide) ?_   -- t2 := assign c(STR)
  refine WL.nil ?_
  refine hK1 _ _ ?_; try clear hK1 K1
  refine CW.seq fun K2 hK2 => ?_
  refine CW.region ?_   -- region 1
  refine WL.val (Y.move rfl) (by decide) ?_   -- t3 := move t0
  refine WL.val (Y.len_string Tryd.underlying9 rfl) (by decide) ?_   -- t4 := call len(t3) : 9
  refine WL.call Tryd.func20 rfl rfl rfl (rNum_any _ _ (by omega)) (by simp) ?_; rintro v w1 ⟨rfl, hx1⟩; have hz1 := hx1.size; have hE := hE.thenExt hx1   -- t5 := call F20(t4) : 3
  refine WL.val (Y.move rfl) (by decide) ?_   -- t6 := move t0
  refine WL.val (Y.addS rfl rfl (by rw [bs_size]; have := vi_len9 (n := s.size) (by omega); omega)) (by decide) ?_   -- t7 := binOp add 9 t5 t6 9
  refine WL.val (Y.assign rfl) (by decide) ?_   -- t2 := assign t7
  refine WL.nil ?_
  refine hK2 _ _ ?_; try clear hK2 K2
  refine CW.ret ⟨_, rfl, ?_⟩
  exact ⟨by rw [textB, toList_length, ← bs_append, bs_of], hE⟩
theorem rBytes_any (d : Dig) (w : World) : Calls Tryd.prog 21 #[digV d] w (Ret fun v w' => v = .string (bs d.1) ∧ Ext w w') := by
  have hd := d.2
  refine calls_of_CW 17 [2] [(0, digV d)] Tryd.func21 rfl rfl rfl (by simp) args1 ?_
  have hE : Ext w w := Chg.refl
  refine CW.seq fun K1 hK1 => ?_
  refine CW.region ?_   -- region 0
  refine WL.box rfl rfl (by decide) fun g1 w1 hx1 hg1 hB1 => ?_   -- t1 := box 34 t0
  have hlt1 := hB1.lt; have hz1 := hx1.size
  have hM1 := hB1.mem; have hz1 := hx1.size; have hE := hE.thenExt hx1
  refine WL.val (Y.assign rfl) (by decide) ?_   -- t2 := assign c(STR)
  refine WL.nil ?_
  refine hK1 _ _ ?_; try clear hK1 K1
  refine CW.seq fun K2 hK2 => ?_
  refine CW.region ?_   -- region 1
  refine WL.val (Y.assign rfl) (by decide) ?_   -- t3 := assign c(STR)
  refine WL.nil ?_
  refine hK2 _ _ ?_; try clear hK2 K2
  refine CW.seq fun K3 hK3 => ?_
  refine CW.seq fun K4 hK4 => ?_
  refine CW.region ?_   -- region 2
  refine WL.val (Y.assign rfl) (by decide) ?_   -- t4 := assign c(0:i64)
  refine WL.nil ?_
  refine hK4 _ _ ?_; try clear hK4 K4
  refine CW.block ?_   -- block 0
  refine CW.loop (X := Nat) (fun x => [(1, .pointer (some ⟨g1, 0, none⟩)), (3, .string (bs (d.1.take x))), (4, .int .i64 (x : Int))]) (fun x w0 => x ≤ 32 ∧ Ext w w0 ∧ Blk w0 g1 34 (digC d)) (fun x => 32 - x) 0 (by repeat (first | exact Fr.le.nil | refine Fr.le.cons rfl ?_)) ⟨Nat.zero_le _, hE, hB1⟩ ?_
  intro x w2 hl2
  clear hE hB1 hM1
  obtain ⟨hx, hE, hB1⟩ := hl2
  refine CW.seq fun K5 hK5 => ?_
  refine CW.seq fun K6 hK6 => ?_
  refine CW.region ?_   -- region 3
  refine WL.val (Y.move rfl) (by decide) ?_   -- t5 := move t4
  refine WL.val (Y.lss rfl rfl) (by decide) ?_   -- t6 := binOp lss 3 t5 c(32:i64) 3
  refine WL.nil ?_
  refine hK6 _ _ ?_; try clear hK6 K6
  first | refine CW.condD rfl (fun ht7 => ?_) (fun ht7 => ?_) | refine CW.condND rfl (fun ht7 => ?_) (fun ht7 => ?_) | refine CW.condN rfl (fun ht7 => ?_) (fun ht7 => ?_) | refine CW.cond rfl (fun ht7 => ?_) (fun ht7 => ?_)
  · -- then
    refine CW.skip ?_
    refine hK5 _ _ ?_; try clear hK5 K5
    refine CW.seq fun K8 hK8 => ?_
    refine CW.block ?_   -- block 1
    refine CW.region ?_   -- region 5
    refine WL.val (Y.move rfl) (by decide) ?_   -- t9 := move t3
    refine WL.val (Y.move rfl) (by decide) ?_   -- t10 := move t4
    refine WL.val (Y.indexAddrAN Tryd.underlying34 rfl rfl sz0_uint8 (by omega)) (by decide) ?_   -- t11 := indexAddr 34 t1 t10
    refine WL.val (Y.load1 Tryd.underlying5 rfl (hB1.mem.digAt (i := x) (by omega)) rfl) (by decide) ?_   -- t12 := load 5 t11
    refine WL.st (St.buildSlice rfl (bs1 _)) (by decide) fun v13 w3 hR3 => ?_   -- t13 := buildSlice 27 1 [(0,t12)]
    obtain ⟨g, rfl, hg, hB, hx3⟩ := hR3
    have hE := hE.thenExt hx3
    have hB1 := hB1.ext hx3
    refine WL.val (Y.bytes_string Tryd.underlying27 Tryd.underlying5 Tryd.underlying9 rfl (l := [d.1[x]'(by omega)]) rfl (fun _ => ⟨_, rfl, hB.mem⟩) (fun h => by cases h)) (by decide) ?_   -- t14 := convert 27 9 t13
    refine WL.val (Y.addS rfl rfl (by rw [bs_size, bs_size, List.length_take]; simp only [List.length_cons, List.length_nil]; omega)) (by decide) ?_   -- t15 := binOp add 9 t9 t14 9
    refine WL.val (Y.assign rfl) (by decide) ?_   -- t3 := assign t15
    refine WL.nil ?_
    refine hK8 _ _ ?_; try clear hK8 K8
    refine CW.region ?_   -- region 4
    refine WL.val (Y.move rfl) (by decide) ?_   -- t7 := move t4
    refine WL.val (Y.add rfl rfl ⟨by omega, by omega⟩) (by decide) ?_   -- t8 := binOp add 3 t7 c(1:i64) 3
    refine WL.val (Y.assign rfl) (by decide) ?_   -- t4 := assign t8
    refine WL.nil ?_
    refine ⟨x + 1, by omega, Fr.le.cons rfl (Fr.le.cons (by rw [bs_append, ← take_succ (List.getElem?_eq_getElem (by omega))]; rfl) (Fr.le.cons rfl Fr.le.nil)), by omega, hE, hB1⟩
  -- else
  refine CW.exit ?_   -- exit 0
  refine hK3 _ _ ?_; try clear hK3 K3
  refine CW.seq fun K9 hK9 => ?_
  refine CW.region ?_   -- region 6
  refine WL.val (Y.move rfl) (by decide) ?_   -- t16 := move t3
  refine WL.val (Y.assign rfl) (by decide) ?_   -- t2 := assign t16
  refine WL.nil ?_
  refine hK9 _ _ ?_; try clear hK9 K9
  refine CW.ret ⟨_, rfl, ?_⟩
  exact ⟨by rw [List.take_of_length_le (by omega)], hE⟩
theorem rOp_any (x : OpD) (w : World) (hr : refB x.at_ = true) (hn : 0 ≤ x.at_.n ∧ x.at_.n ≤ 2000) : Calls Tryd.prog 23 #[opV x] w (Ret fun v w' => v = .string (bs (opB x)) ∧ Ext w w') := by
  have hfl := flag_len x
  have hf0 := flagI_range x
  have hnl := numB_len (n := x.at_.n) (by omega)
  have hdl := x.at_.c.2
  have hol := outB_len (x := x) (by omega)
  refine calls_of_CW 50 [2] [(0, opV x)] Tryd.func23 rfl rfl rfl (by simp) args1 ?_
  have hE : Ext w w := Chg.refl
  refine CW.seq fun K1 hK1 => ?_
  refine CW.region ?_   -- region 0
  refine WL.box rfl rfl (by decide) fun g1 w1 hx1 hg1 hB1 => ?_   -- t1 := box 51 t0
  have hlt1 := hB1.lt; have hz1 := hx1.size
  have hM1 := hB1.mem; have hz1 := hx1.size; have hE := hE.thenExt hx1
  refine WL.val (Y.assign rfl) (by decide) ?_   -- t2 := assign c(STR)
  refine WL.nil ?_
  refine hK1 _ _ ?_; try clear hK1 K1
  refine CW.seq fun K2 hK2 => ?_
  refine CW.region ?_   -- region 1
  refine WL.val (Y.assign rfl) (by decide) ?_   -- t3 := assign c(0:i64)
  refine WL.nil ?_
  refine hK2 _ _ ?_; try clear hK2 K2
  refine CW.seq_to (X := Unit) (fun _ => [(1, .pointer (some ⟨g1, 0, none⟩)), (3, .int .i64 (if x.kind = 2 then 1 else 0))]) (fun _ w0 => Ext w w0 ∧ Blk w0 g1 51 (opC x)) ?_ ?_
  · skip
    refine CW.seq fun K4 hK4 => ?_
    refine CW.region ?_   -- region 2
    refine WL.val (Y.fieldAddr fo_apiOp0 rfl) (by decide) ?_   -- t5 := fieldAddr 51 t1 0
    refine WL.val (Y.load1 Tryd.underlying3 rfl hB1.mem.op0 rfl) (by decide) ?_   -- t6 := load 3 t5
    refine WL.val (Y.eql rfl rfl) (by decide) ?_   -- t7 := binOp eql 3 t6 c(2:i64) 3
    refine WL.nil ?_
    refine hK4 _ _ ?_; try clear hK4 K4
    first | refine CW.condD rfl (fun ht5 => ?_) (fun ht5 => ?_) | refine CW.condND rfl (fun ht5 => ?_) (fun ht5 => ?_) | refine CW.condN rfl (fun ht5 => ?_) (fun ht5 => ?_) | refine CW.cond rfl (fun ht5 => ?_) (fun ht5 => ?_)
    · -- then
      refine CW.region ?_   -- region 3
      refine WL.val (Y.assign rfl) (by decide) ?_   -- t3 := assign c(1:i64)
      refine WL.nil ?_
      exact ⟨(), Fr.le.cons rfl (Fr.le.cons (by rw [if_pos (by assumption)]; rfl) Fr.le.nil), hE, hB1⟩
    -- else
    refine CW.skip ?_
    exact ⟨(), Fr.le.cons rfl (Fr.le.cons (by rw [if_neg (by assumption)]; rfl) Fr.le.nil), hE, hB1⟩
  rintro u w2 hj2
  clear hE hB1 hM1
  obtain ⟨hE, hB1⟩ := hj2
  refine CW.seq_to (X := Unit) (fun _ => [(1, .pointer (some ⟨g1, 0, none⟩)), (3, .int .i64 ((if x.kind = 2 then 1 else 0) + (if x.left = true then 2 else 0)))]) (fun _ w0 => Ext w w0 ∧ Blk w0 g1 51 (opC x)) ?_ ?_
  · skip
    refine CW.seq fun K7 hK7 => ?_
    refine CW.region ?_   -- region 4
    refine WL.val (Y.fieldAddr fo_apiOp1 rfl) (by decide) ?_   -- t8 := fieldAddr 51 t1 1
    refine WL.val (Y.load1 Tryd.underlying4 rfl hB1.mem.op1 rfl) (by decide) ?_   -- t9 := load 4 t8
    refine WL.nil ?_
    refine hK7 _ _ ?_; try clear hK7 K7
    first | refine CW.condD rfl (fun ht8 => ?_) (fun ht8 => ?_) | refine CW.condND rfl (fun ht8 => ?_) (fun ht8 => ?_) | refine CW.condN rfl (fun ht8 => ?_) (fun ht8 => ?_) | refine CW.cond rfl (fun ht8 => ?_) (fun ht8 => ?_)
    · -- then
      refine CW.region ?_   -- region 5
      refine WL.val (Y.move rfl) (by decide) ?_   -- t10 := move t3
      refine WL.val (Y.add rfl rfl ⟨by omega, by omega⟩) (by decide) ?_   -- t11 := binOp add 3 t10 c(2:i64) 3
      refine WL.val (Y.assign rfl) (by decide) ?_   -- t3 := assign t11
      refine WL.nil ?_
      exact ⟨(), Fr.le.cons rfl (Fr.le.cons (by rw [if_pos (show x.left = true by assumption)]; rfl) Fr.le.nil), hE, hB1⟩
    -- else
    refine CW.skip ?_
    exact ⟨(), Fr.le.cons rfl (Fr.le.cons (by rw [show x.left = false by assumption, show (if (false : Bool) = true then (2 : Int) else 0) = 0 from rfl, Int.add_zero]; rfl) Fr.le.nil), hE, hB1⟩
  rintro u w3 hj3
  clear hE hB1
  obtain ⟨hE, hB1⟩ := hj3
  refine CW.seq fun K9 hK9 => ?_
  refine CW.region ?_   -- region 6
  refine WL.val (Y.assign rfl) (by decide) ?_   -- t4 := assign c(STR)
  refine WL.nil ?_
  refine hK9 _ _ ?_; try clear hK9 K9
  refine CW.seq_to (X := Unit) (fun _ => [(1, .pointer (some ⟨g1, 0, none⟩)), (3, .int .i64 (flagI x)), (4, .string (bs (outB x)))]) (fun _ w0 => Ext w w0 ∧ Blk w0 g1 51 (opC x)) ?_ ?_
  · skip
    refine CW.seq fun K11 hK11 => ?_
    refine CW.region ?_   -- region 7
    refine WL.val (Y.fieldAddr fo_apiOp2 rfl) (by decide) ?_   -- t12 := fieldAddr 51 t1 2
    refine WL.val (Y.load Tryd.underlying49 rfl hB1.mem.op2 (sz_apiRef _) rfl) (by decide) ?_   -- t13 := load 49 t12
    refine WL.call Tryd.func43 rfl rfl rfl (rRef_any _ _) (by simp) ?_; rintro v w4 ⟨rfl, hx4⟩; have hz4 := hx4.size; have hE := hE.thenExt hx4; have hB1 := hB1.ext hx4   -- t14 := call F43(t13) : 49
    refine WL.nil ?_
    refine hK11 _ _ ?_; try clear hK11 K11
    refine CW.block ?_   -- block 0
    refine CW.seq fun K12 hK12 => ?_
    refine CW.region ?_   -- region 8
    refine WL.val (Y.eql rfl rfl) (by decide) ?_   -- t16 := binOp eql 3 t14 c(1:i64) 3
    refine WL.val (Y.assign rfl) (by decide) ?_   -- t15 := assign t16
    refine WL.nil ?_
    refine hK12 _ _ ?_; try clear hK12 K12
    first | refine CW.condD rfl (fun ht13 => ?_) (fun ht13 => ?_) | refine CW.condND rfl (fun ht13 => ?_) (fun ht13 => ?_) | refine CW.condN rfl (fun ht13 => ?_) (fun ht13 => ?_) | refine CW.cond rfl (fun ht13 => ?_) (fun ht13 => ?_)
    · -- then
      refine CW.seq fun K14 hK14 => ?_
      refine CW.region ?_   -- region 9
      refine WL.val (Y.move rfl) (by decide) ?_   -- t17 := move t3
      refine WL.val (Y.add rfl rfl ⟨by omega, by omega⟩) (by decide) ?_   -- t18 := binOp add 3 t17 c(4:i64) 3
      refine WL.val (Y.assign rfl) (by decide) ?_   -- t3 := assign t18
      refine WL.nil ?_
      refine hK14 _ _ ?_; try clear hK14 K14
      refine CW.region ?_   -- region 10
      refine WL.val (Y.fieldAddr fo_apiOp2 rfl) (by decide) ?_   -- t19 := fieldAddr 51 t1 2
      refine WL.val (Y.fieldAddr fo_apiRef2 rfl) (by decide) ?_   -- t20 := fieldAddr 49 t19 2
      refine WL.val (Y.load1 Tryd.underlying3 rfl hB1.mem.op2.ref2 rfl) (by decide) ?_   -- t21 := load 3 t20
      refine WL.call Tryd.func20 rfl rfl rfl (rNum_i _ _ hn.1 (by omega)) (by simp) ?_; rintro v w5 ⟨rfl, hx5⟩; have hz5 := hx5.size; have hE := hE.thenExt hx5; have hB1 := hB1.ext hx5   -- t22 := call F20(t21) : 3
      refine WL.val (Y.assign rfl) (by decide) ?_   -- t4 := assign t22
      refine WL.nil ?_
      have ho := kc1 (r := x.at_) (by assumption)
      exact ⟨(), Fr.le.cons rfl (Fr.le.cons (by rw [flagI, if_pos ho]; rfl) (Fr.le.cons (by rw [outB, if_pos ho]; rfl) Fr.le.nil)), hE, hB1⟩
    -- else
    refine CW.seq fun K15 hK15 => ?_
    refine CW.region ?_   -- region 11
    refine WL.val (Y.eql rfl rfl) (by decide) ?_   -- t24 := binOp eql 3 t14 c(2:i64) 3
    refine WL.val (Y.assign rfl) (by decide) ?_   -- t23 := assign t24
    refine WL.nil ?_
    refine hK15 _ _ ?_; try clear hK15 K15
    first | refine CW.condD rfl (fun ht16 => ?_) (fun ht16 => ?_) | refine CW.condND rfl (fun ht16 => ?_) (fun ht16 => ?_) | refine CW.condN rfl (fun ht16 => ?_) (fun ht16 => ?_) | refine CW.cond rfl (fun ht16 => ?_) (fun ht16 => ?_)
    · -- then
      refine CW.seq fun K17 hK17 => ?_
      refine CW.region ?_   -- region 12
      refine WL.val (Y.move rfl) (by decide) ?_   -- t25 := move t3
      refine WL.val (Y.add rfl rfl ⟨by omega, by omega⟩) (by decide) ?_   -- t26 := binOp add 3 t25 c(8:i64) 3
      refine WL.val (Y.assign rfl) (by decide) ?_   -- t3 := assign t26
      refine WL.nil ?_
      refine hK17 _ _ ?_; try clear hK17 K17
      refine CW.quiet (fun wq => Ext w4 wq) (by kernel_rfl) (by kernel_rfl) Chg.drew ?_
      refine QL.val (fun wq hq => Y.fieldAddr fo_apiOp2 rfl) (by decide) ?_   -- t27 := fieldAddr 51 t1 2
      refine QL.val (fun wq hq => Y.fieldAddr fo_apiRef1 rfl) (by decide) ?_   -- t28 := fieldAddr 49 t27 1
      refine QL.val (fun wq hq => Y.load Tryd.underlying34 rfl (hB1.ext hq).mem.op2.ref1 (sz_apiDigest _) rfl) (by decide) ?_   -- t29 := load 34 t28
      refine QL.call Tryd.func21 rfl rfl rfl (fun wq hq => ret_ext (rBytes_any _ _) hq) (by simp) ?_   -- t30 := call F21(t29) : 34
      refine QL.val (fun wq hq => Y.fieldAddr fo_apiOp2 rfl) (by decide) ?_   -- t31 := fieldAddr 51 t1 2
      refine QL.val (fun wq hq => Y.fieldAddr fo_apiRef2 rfl) (by decide) ?_   -- t32 := fieldAddr 49 t31 2
      refine QL.val (fun wq hq => Y.load1 Tryd.underlying3 rfl (hB1.ext hq).mem.op2.ref2 rfl) (by decide) ?_   -- t33 := load 3 t32
      refine QL.call Tryd.func20 rfl rfl rfl (fun wq hq => ret_ext (rNum_i _ _ hn.1 (by omega)) hq) (by simp) ?_   -- t34 := call F20(t33) : 3
      refine QL.val (fun wq hq => Y.addS rfl rfl (by rw [bs_size, bs_size]; omega)) (by decide) ?_   -- t35 := binOp add 9 t30 t34 9
      refine QL.val (fun wq hq => Y.assign rfl) (by decide) ?_   -- t4 := assign t35
      refine QL.nil fun w6 hx6 => ?_
      have hz6 := hx6.size
      have hE := hE.thenExt hx6
      have hB1 := hB1.ext hx6
      obtain ⟨ho, hb⟩ := kc2 hr (by assumption)
      exact ⟨(), Fr.le.cons rfl (Fr.le.cons (by rw [show flagI x = (if x.kind = 2 then 1 else 0) + (if x.left = true then 2 else 0) + 8 by simp [flagI, ho, hb]]; rfl) (Fr.le.cons (by rw [show outB x = x.at_.c.1 ++ numB x.at_.n by simp [outB, ho, hb], ← bs_append]; rfl) Fr.le.nil)), hE, hB1⟩
    -- else
    refine CW.skip ?_
    obtain ⟨ho, hb⟩ := kc0 hr (by assumption) (by assumption)
    exact ⟨(), Fr.le.cons rfl (Fr.le.cons (by rw [show flagI x = (if x.kind = 2 then 1 else 0) + (if x.left = true then 2 else 0) by simp [flagI, ho, hb]]; rfl) (Fr.le.cons (by rw [show outB x = [] by simp [outB, ho, hb]]; rfl) Fr.le.nil)), hE, hB1⟩
  rintro u w7 hj7
  clear hE hB1
  obtain ⟨hE, hB1⟩ := hj7
  refine CW.seq fun K18 hK18 => ?_
  refine CW.region ?_   -- region 14
  refine WL.val (Y.move rfl) (by decide) ?_   -- t36 := move t3
  refine WL.call Tryd.func20 rfl rfl rfl (rNum_i _ _ hf0.1 (by omega)) (by simp) ?_; rintro v w8 ⟨rfl, hx8⟩; have hz8 := hx8.size; have hE := hE.thenExt hx8; have hB1 := hB1.ext hx8   -- t37 := call F20(t36) : 3
  refine WL.val (Y.move rfl) (by decide) ?_   -- t38 := move t4
  refine WL.val (Y.addS rfl rfl (by rw [bs_size, bs_size]; omega)) (by decide) ?_   -- t39 := binOp add 9 t37 t38 9
  refine WL.val (Y.assign rfl) (by decide) ?_   -- t4 := assign t39
  refine WL.nil ?_
  refine hK18 _ _ ?_; try clear hK18 K18
  refine CW.seq_to (X := Unit) (fun _ => [(4, .string (bs (opB x)))]) (fun _ w0 => Ext w w0) ?_ ?_
  · skip
    refine CW.seq fun K20 hK20 => ?_
    refine CW.region ?_   -- region 15
    refine WL.val (Y.fieldAddr fo_apiOp0 rfl) (by decide) ?_   -- t40 := fieldAddr 51 t1 0
    refine WL.val (Y.load1 Tryd.underlying3 rfl hB1.mem.op0 rfl) (by decide) ?_   -- t41 := load 3 t40
    refine WL.val (Y.eql rfl rfl) (by decide) ?_   -- t42 := binOp eql 3 t41 c(1:i64) 3
    refine WL.nil ?_
    refine hK20 _ _ ?_; try clear hK20 K20
    first | refine CW.condD rfl (fun ht21 => ?_) (fun ht21 => ?_) | refine CW.condND rfl (fun ht21 => ?_) (fun ht21 => ?_) | refine CW.condN rfl (fun ht21 => ?_) (fun ht21 => ?_) | refine CW.cond rfl (fun ht21 => ?_) (fun ht21 => ?_)
    · -- then
      refine CW.region ?_   -- region 16
      refine WL.val (Y.move rfl) (by decide) ?_   -- t43 := move t4
      refine WL.val (Y.fieldAddr fo_apiOp3 rfl) (by decide) ?_   -- t44 := fieldAddr 51 t1 3
      refine WL.val (Y.load1 Tryd.underlying5 rfl hB1.mem.op3 rfl) (by decide) ?_   -- t45 := load 5 t44
      refine WL.st (St.buildSlice rfl (bs1 _)) (by decide) fun v46 w9 hR9 => ?_   -- t46 := buildSlice 27 1 [(0,t45)]
      obtain ⟨g, rfl, hg, hB, hx⟩ := hR9
      have hE := hE.thenExt hx
      have hB1 := hB1.ext hx
      refine WL.val (Y.bytes_string Tryd.underlying27 Tryd.underlying5 Tryd.underlying9 rfl (l := [x.byte]) rfl (fun _ => ⟨_, rfl, hB.mem⟩) (fun h => by cases h)) (by decide) ?_   -- t47 := convert 27 9 t46
      refine WL.val (Y.addS rfl rfl (by rw [bs_append, bs_size, bs_size, List.length_append]; simp only [List.length_cons, List.length_nil]; omega)) (by decide) ?_   -- t48 := binOp add 9 t43 t47 9
      refine WL.val (Y.assign rfl) (by decide) ?_   -- t4 := assign t48
      refine WL.nil ?_
      exact ⟨(), Fr.le.cons (by rw [opB_out, if_pos (by assumption), ← bs_append, ← bs_append]; rfl) Fr.le.nil, hE⟩
    -- else
    refine CW.skip ?_
    exact ⟨(), Fr.le.cons (by rw [opB_out, if_neg (by assumption), List.append_nil, ← bs_append]; rfl) Fr.le.nil, hE⟩
  rintro u w10 hj10
  have hE := hj10
  refine CW.seq fun K22 hK22 => ?_
  refine CW.region ?_   -- region 17
  refine WL.val (Y.move rfl) (by decide) ?_   -- t49 := move t4
  refine WL.val (Y.assign rfl) (by decide) ?_   -- t2 := assign t49
  refine WL.nil ?_
  refine hK22 _ _ ?_; try clear hK22 K22
  refine CW.ret ⟨_, rfl, ?_⟩
  exact ⟨rfl, hE⟩
end Go.Proofs.YtfbagecopapfhaaDoor
