/- More laws' functions, walked: Own, CommitSames, CommitJust, CommitHeads, CommitUnlike. No condition. -/
import Derived.Test.YtfbagecopapfhaaKo
import Derived.Test.YtfbagecopapfhaaLa
set_option linter.unusedSimpArgs false
set_option linter.unusedVariables false
namespace Go.Proofs.Ytfbagecopapfhaa
open Go.RowKit Go.Fw Go.Pl
theorem tmod_pos {i : Int} {m : Nat} (h : 0 < m) : -(m : Int) < i.tmod m ∧ i.tmod m < m := by
  have h1 := Int.tmod_lt_of_pos i (b := (m : Int)) (by omega)
  have h2 := Int.lt_tmod_of_pos i (b := (m : Int)) (by omega)
  exact ⟨h2, h1⟩
theorem tmod_twice {i : Int} {m : Nat} (h : 0 < m) : ∃ k : Nat, (i.tmod m + m).tmod m = (k : Int) ∧ k < m := by
  obtain ⟨h1, h2⟩ := tmod_pos (i := i) h
  have h3 := Int.tmod_nonneg (a := i.tmod m + m) (m : Int) (by omega)
  obtain ⟨_, h4⟩ := tmod_pos (i := i.tmod m + m) h
  exact ⟨((i.tmod m + m).tmod m).toNat, by omega, by omega⟩
theorem one_flat {α : Type} {enc : α → List Value} (h : ∀ x, ∀ u ∈ enc x, u.oneCell' = true) {xs : List α} : ∀ u ∈ (xs.map enc).flatten, u.oneCell' = true := by
  intro u hu
  obtain ⟨l, hl, hu⟩ := List.mem_flatten.1 hu
  obtain ⟨d, _, rfl⟩ := List.mem_map.1 hl
  exact h d u hu

theorem own_any (u : Value) (c : ComD) (w : World) (hc : Com w u c) (hp : c.parents.length * 32 ≤ 140737488351232) (ho : c.ops.length * 72 ≤ 140737488351232) : Calls Try.prog 25 #[u] w (Ret fun v w' => Com w' v c ∧ Ext w w') := by
  obtain ⟨ic, hic, hzc⟩ := info_com
  obtain ⟨pv, ov, rfl, hpp, hoo, hau, hno⟩ := hc
  obtain ⟨Ap, cp, rfl, _, _⟩ := hpp.lens
  obtain ⟨Ao, co, rfl, _, _⟩ := hoo.lens
  refine calls_of_CWc 14 2 4 [(0, .agg (comC (.slice Ap c.parents.length cp) c.author c.note (.slice Ao c.ops.length co)).toArray)] Try.func25 rfl rfl rfl Try.underlying31 rfl (by kernel_rfl) (by simp) args1 ?_
  refine CW.seq fun K1 hK1 => ?_
  refine CW.region ?_   -- region 0
  refine WL.box rfl rfl (by decide) fun g1 w1 hx1 hg1 hB1 => ?_   -- t1 := box 31 t0
  have hlt1 := hB1.lt; have hz1 := hx1.size
  have hM1 := hB1.mem
  refine WL.alloc (hic) (hzc) rfl (by decide) fun g2 w2 hx2 hg2 hB2 => ?_   -- t2 := alloc 31
  have hlt2 := hB2.lt; have hz2 := hx2.size
  have hM2 := hB2.mem; have hB1 := hB1.ext hx2
  refine WL.nil ?_
  refine hK1 _ _ ?_; try clear hK1 K1
  refine CW.seq fun K2 hK2 => ?_
  refine CW.region ?_   -- region 1
  refine WL.st (St.buildSlice0 Try.underlying29 sz_dig) (by decide) fun v3 w3 hR3 => ?_   -- t3 := buildSlice 29 0 []
  obtain ⟨g3, rfl, hg3, hO3, hx3⟩ := hR3
  have hB1 := hB1.ext hx3
  have hB2 := hB2.ext hx3
  have hE3 := (hx1.thenExt hx2).thenExt hx3
  refine WL.val (Y.fieldAddr fo_apiCommit0 rfl) (by decide) ?_   -- t4 := fieldAddr 31 t1 0
  refine WL.val (Y.load1 Try.underlying29 rfl hB1.mem.com0 rfl) (by decide) ?_   -- t5 := load 29 t4
  refine WL.st (St.append Try.underlying29 Try.underlying29 ai_dig rfl rfl hO3 ((hpp.ext hE3).src digC_length) (one_flat fun x => one_digC) (by simp; omega)) (by decide) fun v6 w4 hR4 => ?_   -- t6 := call append(t3, t5) : 29,29
  obtain ⟨hO6, hc4, hf6⟩ := hR4
  have hS4 : ∀ k, (Value.slice (some ⟨g3, 0, none⟩) 0 0).ownBlock = some k → w2.heap.size ≤ k := fun k h => by simp [Value.ownBlock] at h; omega
  have hE4 : Ext w w4 := hE3.step hc4 (fun k h => by have := hS4 k h; omega)
  have hf6 : ∀ k, v6.ownBlock = some k → w2.heap.size ≤ k := by
    rcases hf6 with h | h
    · intro k hk; rw [h] at hk; exact hS4 k hk
    · intro k hk; have := h k hk; have := hx3.size; omega
  have hB1 := hB1.chg hc4 (fun h => by have := hS4 _ h; omega)
  have hB2 := hB2.chg hc4 (fun h => by have := hS4 _ h; omega)
  obtain ⟨A6, m6, c6, rfl⟩ := hO6.lens
  refine WL.val (Y.fieldAddr fo_apiCommit0 rfl) (by decide) ?_   -- t7 := fieldAddr 31 t1 0
  refine WL.store (g := g1) (pre := []) (old := [.slice Ap c.parents.length cp]) (post := [.string c.author, .string c.note, .slice Ao c.ops.length co]) (new := [.slice A6 m6 c6]) rfl rfl rfl rfl (by kernel_rfl) hB1 (by first | rfl | (simp [digC_length, opC_length]; done) | (simp only [digC_length, opC_length]; omega)) (one1 rfl) (fun w5 hc5 hB5_ => ?_)   -- _ := store 29 t7 t6
  have hB1 : Blk w5 g1 31 (comC (.slice A6 m6 c6) c.author c.note (.slice Ao c.ops.length co)) := hB5_
  have hE5 : Ext w w5 := hE4.step hc5 (fun k h => by omega)
  have hB2 := hB2.chg hc5 (fun h => by omega)
  have hO6 := hO6.chg hc5 (fun k hk h => by have := hf6 k hk; omega)
  refine WL.nil ?_
  refine hK2 _ _ ?_; try clear hK2 K2
  refine CW.seq fun K3 hK3 => ?_
  refine CW.region ?_   -- region 2
  refine WL.st (St.buildSlice0 Try.underlying24 sz_op) (by decide) fun v8 w6 hR6 => ?_   -- t8 := buildSlice 24 0 []
  obtain ⟨g8, rfl, hg8, hO8, hx6⟩ := hR6
  have hB1 := hB1.ext hx6
  have hlt2 := hB2.lt
  have hB2 := hB2.ext hx6
  have hlt6 := hO6.lt
  have hO6 := hO6.ext hx6
  have hE6 := hE5.thenExt hx6
  have hsw := hE5.size
  refine WL.val (Y.fieldAddr fo_apiCommit3 rfl) (by decide) ?_   -- t9 := fieldAddr 31 t1 3
  refine WL.val (Y.load1 Try.underlying24 rfl hB1.mem.com3 rfl) (by decide) ?_   -- t10 := load 24 t9
  refine WL.st (St.append Try.underlying24 Try.underlying24 ai_op rfl rfl hO8 ((hoo.ext hE6).src opC_length) (one_flat fun x => one_opC) (by simp; omega)) (by decide) fun v11 w7 hR7 => ?_   -- t11 := call append(t8, t10) : 24,24
  obtain ⟨hO11, hc7, hf11⟩ := hR7
  have hS7 : ∀ k, (Value.slice (some ⟨g8, 0, none⟩) 0 0).ownBlock = some k → w5.heap.size ≤ k := fun k h => by simp [Value.ownBlock] at h; omega
  have hE7 : Ext w w7 := hE6.step hc7 (fun k h => by have := hS7 k h; omega)
  have hf11 : ∀ k, v11.ownBlock = some k → w5.heap.size ≤ k := by
    rcases hf11 with h | h
    · intro k hk; rw [h] at hk; exact hS7 k hk
    · intro k hk; have := h k hk; have := hx6.size; omega
  have hB1 := hB1.chg hc7 (fun h => by have := hS7 _ h; omega)
  have hB2 := hB2.chg hc7 (fun h => by have := hS7 _ h; omega)
  have hO6 := hO6.chg hc7 (fun k hk h => by have := hS7 _ h; have := hlt6 k hk; omega)
  obtain ⟨A11, m11, c11, rfl⟩ := hO11.lens
  refine WL.val (Y.fieldAddr fo_apiCommit3 rfl) (by decide) ?_   -- t12 := fieldAddr 31 t1 3
  refine WL.store (g := g1) (pre := [.slice A6 m6 c6, .string c.author, .string c.note]) (old := [.slice Ao c.ops.length co]) (post := []) (new := [.slice A11 m11 c11]) rfl rfl rfl rfl (by kernel_rfl) hB1 (by first | rfl | (simp [digC_length, opC_length]; done) | (simp only [digC_length, opC_length]; omega)) (one1 rfl) (fun w8 hc8 hB8_ => ?_)   -- _ := store 24 t12 t11
  have hB1 : Blk w8 g1 31 (comC (.slice A6 m6 c6) c.author c.note (.slice A11 m11 c11)) := hB8_
  have hE8 : Ext w w8 := hE7.step hc8 (fun k h => by omega)
  have hB2 := hB2.chg hc8 (fun h => by omega)
  have hO6 := hO6.chg hc8 (fun k hk h => by have := hf6 k hk; omega)
  have hO11 := hO11.chg hc8 (fun k hk h => by have := hf11 k hk; have := hx6.size; omega)
  refine WL.nil ?_
  refine hK3 _ _ ?_; try clear hK3 K3
  refine CW.seq fun K4 hK4 => ?_
  refine CW.region ?_   -- region 3
  refine WL.val (Y.load Try.underlying31 rfl hB1.mem (sz_apiCommit _ _ _ _) rfl) (by decide) ?_   -- t13 := load 31 t1
  refine WL.store (g := g2) (pre := []) (old := comZ) (post := []) (new := comC (.slice A6 m6 c6) c.author c.note (.slice A11 m11 c11)) rfl rfl rfl rfl (sz_apiCommit _ _ _ _) (by simpa using hB2) (by first | rfl | (simp [digC_length, opC_length]; done) | (simp only [digC_length, opC_length]; omega)) (one_com) (fun w9 hc9 hB9_ => ?_)   -- _ := store 31 t2 t13
  have hB9 : Blk w9 g2 31 (comC (.slice A6 m6 c6) c.author c.note (.slice A11 m11 c11)) := by simpa using hB9_
  have hE9 : Ext w w9 := hE8.step hc9 (fun k h => by omega)
  have hO6 := hO6.chg hc9 (fun k hk h => by have := hf6 k hk; omega)
  have hO11 := hO11.chg hc9 (fun k hk h => by have := hf11 k hk; omega)
  refine WL.nil ?_
  refine hK4 _ _ ?_; try clear hK4 K4
  refine CW.ret ?_
  refine ⟨_, _, rfl, hB9.mem, rfl, ⟨_, _, rfl, Own.sl (xs := c.parents) (by simpa using hO6) digC_length (by decide), Own.sl (xs := c.ops) (by simpa using hO11) opC_length (by decide), hau, hno⟩, hE9⟩
theorem sames_any (u v : Value) (a b : ComD) (w : World) (hu : Com w u a) (hv : Com w v b) (hp : a.parents.length * 32 ≤ 140737488351232) (ho : a.ops.length * 72 ≤ 140737488351232) : Calls Try.prog 7 #[u, v] w (Ret (True_ w)) := by
  have hu0 := hu
  have hv0 := hv
  obtain ⟨pa, oa, rfl, _⟩ := hu
  obtain ⟨pb, ob, rfl, _⟩ := hv
  refine calls_of_CW 30 [4] [(0, .agg (comC pa a.author a.note oa).toArray), (1, .agg (comC pb b.author b.note ob).toArray)] Try.func7 rfl rfl rfl (by simp) args2 ?_
  refine CW.seq fun K1 hK1 => ?_
  refine CW.region ?_   -- region 0
  refine WL.box rfl rfl (by decide) fun g2 w1 hx1 hg2 hB2 => ?_   -- t2 := box 31 t0
  have hlt2 := hB2.lt; have hz1 := hx1.size
  have hM2 := hB2.mem
  refine WL.box rfl rfl (by decide) fun g3 w2 hx2 hg3 hB3 => ?_   -- t3 := box 31 t1
  have hlt3 := hB3.lt; have hz2 := hx2.size
  have hM3 := hB3.mem; have hM2 := hM2.ext hx2
  refine WL.val (Y.assign rfl) (by decide) ?_   -- t4 := assign c(false)
  refine WL.nil ?_
  refine hK1 _ _ ?_; try clear hK1 K1
  refine CW.seq fun K2 hK2 => ?_
  refine CW.held (fun wq => Ext w2 wq) (by kernel_rfl) 26 rfl fun w3 hS => ?_
  refine RH.take 0 (fun _ _ _ _ h => h) (by kernel_rfl) hS rfl (by kernel_rfl) (by kernel_rfl) (fun wq hq => Y.load Try.underlying31 rfl (hM2.ext hq) (sz_apiCommit _ _ _ _) rfl) (by decide) ?_   -- t5 := load 31 t2
  refine RH.take 1 (fun _ _ _ _ h => h) (by kernel_rfl) hS rfl (by kernel_rfl) (by kernel_rfl) (fun wq hq => Y.load Try.underlying31 rfl (hM3.ext hq) (sz_apiCommit _ _ _ _) rfl) (by decide) ?_   -- t6 := load 31 t3
  refine RH.take 3 (fun _ _ _ _ h => h) (by kernel_rfl) hS rfl (by kernel_rfl) (by kernel_rfl) (fun wq hq => Y.load Try.underlying31 rfl (hM2.ext hq) (sz_apiCommit _ _ _ _) rfl) (by decide) ?_   -- t8 := load 31 t2
  refine RH.take 4 (fun _ _ _ _ h => h) (by kernel_rfl) hS rfl (by kernel_rfl) (by kernel_rfl) (fun wq hq => Y.load Try.underlying31 rfl (hM3.ext hq) (sz_apiCommit _ _ _ _) rfl) (by decide) ?_   -- t9 := load 31 t3
  refine RH.one 2 (by kernel_rfl) ?_
  refine RS.call rfl (fun _ _ h => by cases h) Try.func24 rfl rfl rfl (same_any _ _ a b _ (hu0.ext ((hx1.thenExt hx2).thenExt hS)) (hv0.ext ((hx1.thenExt hx2).thenExt hS))) (by decide) fun v7 w4 hR4 => ?_   -- call F24(t5, t6) : 31,31
  obtain ⟨rfl, hy4⟩ := hR4
  have hS := hS.thenExt hy4
  refine ⟨hS, ?_⟩
  refine RH.one 5 (by kernel_rfl) ?_
  refine RS.call rfl (fun _ _ h => by cases h) Try.func22 rfl rfl rfl (rSame_any _ _ a b _ (hu0.ext ((hx1.thenExt hx2).thenExt hS)) (hv0.ext ((hx1.thenExt hx2).thenExt hS))) (by decide) fun v10 w5 hR5 => ?_   -- call F22(t8, t9) : 31,31
  obtain ⟨rfl, hy5⟩ := hR5
  have hS := hS.thenExt hy5
  refine ⟨hS, ?_⟩
  refine RH.take 6 (fun _ _ _ _ h => h) (by kernel_rfl) hS rfl (by kernel_rfl) (by kernel_rfl) (fun wq hq => Y.eql_bool Try.underlying4 rfl rfl) (by decide) ?_   -- t11 := binOp eql 4 t7 t10 4
  refine RH.take 7 (fun _ _ _ _ h => h) (by kernel_rfl) hS rfl (by kernel_rfl) (by kernel_rfl) (fun wq hq => Y.move rfl) (by decide) ?_   -- t12 := move t11
  refine RH.know (d := 12) (u := .bool true) rfl (by rw [beq_self_eq_true]) ?_
  refine RH.gtake 8 (fun _ _ _ _ h => h) (by kernel_rfl) hS rfl (by kernel_rfl) (by kernel_rfl) rfl rfl (fun wq hq => Y.load Try.underlying31 rfl (hM3.ext hq) (sz_apiCommit _ _ _ _) rfl) (by decide) ?_   -- t13 := load 31 t3
  refine RH.gtake 9 (fun _ _ _ _ h => h) (by kernel_rfl) hS rfl (by kernel_rfl) (by kernel_rfl) rfl rfl (fun wq hq => Y.load Try.underlying31 rfl (hM2.ext hq) (sz_apiCommit _ _ _ _) rfl) (by decide) ?_   -- t14 := load 31 t2
  refine RH.gtake 11 (fun _ _ _ _ h => h) (by kernel_rfl) hS rfl (by kernel_rfl) (by kernel_rfl) rfl rfl (fun wq hq => Y.load Try.underlying31 rfl (hM2.ext hq) (sz_apiCommit _ _ _ _) rfl) (by decide) ?_   -- t16 := load 31 t2
  refine RH.gtake 12 (fun _ _ _ _ h => h) (by kernel_rfl) hS rfl (by kernel_rfl) (by kernel_rfl) rfl rfl (fun wq hq => Y.load Try.underlying31 rfl (hM3.ext hq) (sz_apiCommit _ _ _ _) rfl) (by decide) ?_   -- t17 := load 31 t3
  refine RH.one 10 (by kernel_rfl) ?_
  refine RS.call rfl (fun _ _ h => by cases h; exact ⟨_, rfl, rfl⟩) Try.func24 rfl rfl rfl (same_any _ _ b a _ (hv0.ext ((hx1.thenExt hx2).thenExt hS)) (hu0.ext ((hx1.thenExt hx2).thenExt hS))) (by decide) fun v15 w6 hR6 => ?_   -- call F24(t13, t14) : 31,31
  obtain ⟨rfl, hy6⟩ := hR6
  have hS := hS.thenExt hy6
  refine ⟨hS, ?_⟩
  refine RH.one 13 (by kernel_rfl) ?_
  refine RS.call rfl (fun _ _ h => by cases h; exact ⟨_, rfl, rfl⟩) Try.func22 rfl rfl rfl (rSame_any _ _ a b _ (hu0.ext ((hx1.thenExt hx2).thenExt hS)) (hv0.ext ((hx1.thenExt hx2).thenExt hS))) (by decide) fun v18 w7 hR7 => ?_   -- call F22(t16, t17) : 31,31
  obtain ⟨rfl, hy7⟩ := hR7
  have hS := hS.thenExt hy7
  refine ⟨hS, ?_⟩
  refine RH.gtake 14 (fun _ _ _ _ h => h) (by kernel_rfl) hS rfl (by kernel_rfl) (by kernel_rfl) rfl rfl (fun wq hq => Y.eql_bool Try.underlying4 rfl rfl) (by decide) ?_   -- t19 := binOp eql 4 t15 t18 4
  refine RH.take 15 (fun _ _ _ _ h => h) (by kernel_rfl) hS rfl (by kernel_rfl) (by kernel_rfl) (fun wq hq => Y.pick rfl rfl) (by decide) ?_   -- t20 := pick t12 t19 c(false)
  refine RH.take 16 (fun _ _ _ _ h => h) (by kernel_rfl) hS rfl (by kernel_rfl) (by kernel_rfl) (fun wq hq => Y.move rfl) (by decide) ?_   -- t21 := move t20
  refine RH.know (d := 21) (u := .bool true) rfl (by rw [sameB_comm b a, beq_self_eq_true]) ?_
  refine RH.gtake 17 (fun _ _ _ _ h => h) (by kernel_rfl) hS rfl (by kernel_rfl) (by kernel_rfl) rfl rfl (fun wq hq => Y.load Try.underlying31 rfl (hM2.ext hq) (sz_apiCommit _ _ _ _) rfl) (by decide) ?_   -- t22 := load 31 t2
  refine RH.gtake 18 (fun _ _ _ _ h => h) (by kernel_rfl) hS rfl (by kernel_rfl) (by kernel_rfl) rfl rfl (fun wq hq => Y.load Try.underlying31 rfl (hM2.ext hq) (sz_apiCommit _ _ _ _) rfl) (by decide) ?_   -- t23 := load 31 t2
  refine RH.one 19 (by kernel_rfl) ?_
  refine RS.call rfl (fun _ _ h => by cases h; exact ⟨_, rfl, rfl⟩) Try.func25 rfl rfl rfl (own_any _ a _ (hu0.ext ((hx1.thenExt hx2).thenExt hS)) hp ho) (by decide) fun v24 w8 hR8 => ?_   -- call F25(t23) : 31
  obtain ⟨hC24, hy8⟩ := hR8
  have hS := hS.thenExt hy8
  refine ⟨hS, ?_⟩
  refine RH.one 20 (by kernel_rfl) ?_
  refine RS.call rfl (fun _ _ h => by cases h; exact ⟨_, rfl, rfl⟩) Try.func24 rfl rfl rfl (same_any _ _ a a _ (hu0.ext ((hx1.thenExt hx2).thenExt hS)) hC24) (by decide) fun v25 w9 hR9 => ?_   -- call F24(t22, t24) : 31,31
  obtain ⟨rfl, hy9⟩ := hR9
  have hS := hS.thenExt hy9
  refine ⟨hS, ?_⟩
  refine RH.take 21 (fun _ _ _ _ h => h) (by kernel_rfl) hS rfl (by kernel_rfl) (by kernel_rfl) (fun wq hq => Y.pick rfl rfl) (by decide) ?_   -- t26 := pick t21 t25 c(false)
  refine RH.take 22 (fun _ _ _ _ h => h) (by kernel_rfl) hS rfl (by kernel_rfl) (by kernel_rfl) (fun wq hq => Y.move rfl) (by decide) ?_   -- t27 := move t26
  refine RH.know (d := 27) (u := .bool true) rfl (by rw [sameB_self]) ?_
  refine RH.one 23 (by kernel_rfl) ?_
  refine RS.call rfl (fun _ _ h => by cases h; exact ⟨_, rfl, rfl⟩) Try.func14 rfl rfl rfl (alive_any _) (by decide) fun v28 w10 hR10 => ?_   -- call F14() : 
  obtain ⟨rfl, hy10⟩ := hR10
  have hS := hS.thenExt hy10
  refine ⟨hS, ?_⟩
  refine RH.take 24 (fun _ _ _ _ h => h) (by kernel_rfl) hS rfl (by kernel_rfl) (by kernel_rfl) (fun wq hq => Y.pick rfl rfl) (by decide) ?_   -- t29 := pick t27 t28 c(false)
  refine RH.take 25 (fun _ _ _ _ h => h) (by kernel_rfl) hS rfl (by kernel_rfl) (by kernel_rfl) (fun wq hq => Y.assign rfl) (by decide) ?_   -- t4 := assign t29
  refine RH.done (by kernel_rfl) ?_
  have hx11 := hS; have hM2 := hM2.ext hx11; have hM3 := hM3.ext hx11
  refine hK2 _ _ ?_; try clear hK2 K2
  refine CW.ret ⟨_, rfl, ?_⟩
  exact ⟨rfl, ((hx1.thenExt hx2).thenExt hx11)⟩
theorem just_any (u : Value) (b : List UInt8) (w : World) (hb : By w u b) : Calls Try.prog 8 #[u] w (Ret (True_ w)) := by
  have hb0 := hb
  obtain ⟨A, m, c, rfl⟩ := hb.lens
  have hbl := hb.len
  refine calls_of_CW 42 [2] [(0, .slice A m c)] Try.func8 rfl rfl rfl (by simp) args1 ?_
  refine CW.seq fun K1 hK1 => ?_
  refine CW.region ?_   -- region 0
  refine WL.val (Y.assign rfl) (by decide) ?_   -- t2 := assign c(false)
  refine WL.nil ?_
  refine hK1 _ _ ?_; try clear hK1 K1
  refine CW.seq fun K2 hK2 => ?_
  refine CW.region ?_   -- region 1
  refine WL.val (Y.move rfl) (by decide) ?_   -- t8 := move t0
  refine WL.call Try.func20 rfl rfl rfl (decode_any _ b _ hb0) (by simp) ?_; rintro v9 w1 hR1   -- t9 := call F20(t8) : 35
  obtain ⟨pv1, ov1, rfl, hx1, hP1, hQ1, _, _⟩ := hR1
  have hP01 := hP1
  have hQ01 := hQ1
  obtain ⟨Ap1, mp1, cp1, rfl, _⟩ := hP1
  obtain ⟨Ao1, mo1, co1, rfl, _⟩ := hQ1
  refine WL.val (Y.move rfl) (by decide) ?_   -- t7 := move t9
  refine WL.val (Y.extract rfl rfl) (by decide) ?_   -- t10 := extract t7 0
  refine WL.val (Y.extract rfl rfl) (by decide) ?_   -- t11 := extract t7 1
  refine as_apiCommit rfl (by simp) (by decide) fun g3 w2 hx2 hg3 hB3 => ?_   -- alloc 31; store 31 t3 t10
  have hlt3 := hB3.lt; have hz2 := hx2.size
  have hM3 := hB3.mem
  refine WL.val (Y.assign rfl) (by decide) ?_   -- t4 := assign t11
  refine WL.nil ?_
  refine hK2 _ _ ?_; try clear hK2 K2
  refine CW.seq fun K3 hK3 => ?_
  refine CW.seq fun K4 hK4 => ?_
  refine CW.region ?_   -- region 2
  refine WL.val (Y.move rfl) (by decide) ?_   -- t12 := move t4
  refine WL.val (Y.neq rfl rfl) (by decide) ?_   -- t13 := binOp neq 25 t12 c(0:i64) 25
  refine WL.nil ?_
  refine hK4 _ _ ?_; try clear hK4 K4
  first | refine CW.condD rfl (fun ht5 => ?_) (fun ht5 => ?_) | refine CW.condND rfl (fun ht5 => ?_) (fun ht5 => ?_) | refine CW.condN rfl (fun ht5 => ?_) (fun ht5 => ?_) | refine CW.cond rfl (fun ht5 => ?_) (fun ht5 => ?_)
  · -- then
    refine CW.seq fun K6 hK6 => ?_
    refine CW.region ?_   -- region 3
    refine WL.val (Y.load Try.underlying31 rfl hM3 (sz_apiCommit _ _ _ _) rfl) (by decide) ?_   -- t14 := load 31 t3
    refine WL.val (Y.build0 (build_apiCommit _)) (by decide) ?_   -- t15 := build 31 []
    refine WL.call Try.func24 rfl rfl rfl (same_any _ _ (decC b) nilC _ ⟨_, _, rfl, hP01.ext hx2, hQ01.ext hx2, decC_max.1, decC_max.2⟩ (com_nil _)) (by simp) ?_; rintro v w3 ⟨rfl, hx3⟩; have hM3 := hM3.ext hx3   -- t16 := call F24(t14, t15) : 31,31
    refine WL.val (Y.move rfl) (by decide) ?_   -- t17 := move t16
    refine WL.know (d := 17) (u := .bool true) rfl (by rw [dec_no (by assumption), sameB_self]) ?_
    refine WL.gcall rfl rfl Try.func14 rfl rfl rfl (alive_any _) (by decide) ?_; rintro v w4 ⟨rfl, hx4⟩; have hM3 := hM3.ext hx4   -- t18 := call F14() :  [if 3=true]
    refine WL.val (Y.pick rfl rfl) (by decide) ?_   -- t19 := pick t17 t18 c(false)
    refine WL.val (Y.assign rfl) (by decide) ?_   -- t2 := assign t19
    refine WL.nil ?_
    refine hK6 _ _ ?_; try clear hK6 K6
    refine CW.ret ⟨_, rfl, ?_⟩
    exact ⟨rfl, (((hx1.thenExt hx2).thenExt hx3).thenExt hx4)⟩
  -- else
  refine CW.skip ?_
  refine hK3 _ _ ?_; try clear hK3 K3
  refine CW.seq fun K7 hK7 => ?_
  refine CW.region ?_   -- region 4
  have hok := dec_ok (b := b) (by omega)
  refine WL.val (Y.load Try.underlying31 rfl hM3 (sz_apiCommit _ _ _ _) rfl) (by decide) ?_   -- t21 := load 31 t3
  refine WL.call Try.func26 rfl rfl rfl (encode_any _ (decC b) _ ⟨_, _, rfl, hP01.ext hx2, hQ01.ext hx2, decC_max.1, decC_max.2⟩) (by simp) ?_; rintro v22 w5 hR5   -- t22 := call F26(t21) : 31
  obtain ⟨u5, rfl, hA5⟩ := hR5
  rw [if_pos hok.1, hok.2] at hA5
  have hx5 := hA5.nilExt
  have hO5 := hA5.nilOwn.by
  obtain ⟨A5, m5, c5, rfl⟩ := hO5.lens
  have hl5 := hO5.len.1
  skip; have hM3 := hM3.ext hx5
  refine WL.val (Y.move rfl) (by decide) ?_   -- t20 := move t22
  refine WL.val (Y.extract rfl rfl) (by decide) ?_   -- t23 := extract t20 0
  refine WL.val (Y.extract rfl rfl) (by decide) ?_   -- t24 := extract t20 1
  refine WL.val (Y.assign rfl) (by decide) ?_   -- t5 := assign t23
  refine WL.val (Y.assign rfl) (by decide) ?_   -- t6 := assign t24
  refine WL.nil ?_
  refine hK7 _ _ ?_; try clear hK7 K7
  refine CW.seq fun K8 hK8 => ?_
  refine CW.region ?_   -- region 5
  refine WL.val (Y.move rfl) (by decide) ?_   -- t25 := move t6
  refine WL.val (Y.eql rfl rfl) (by decide) ?_   -- t26 := binOp eql 25 t25 c(0:i64) 25
  refine WL.val (Y.move rfl) (by decide) ?_   -- t27 := move t26
  refine WL.know (d := 27) (u := .bool true) rfl (by rw [decide_eq_true hok.1]) ?_
  refine WL.gval rfl rfl (Y.move rfl) (by decide) ?_   -- t28 := move t5 [if 2=true]
  refine WL.gval rfl rfl (Y.bytes_string Try.underlying35 Try.underlying5 Try.underlying9 rfl hl5 hO5.mem.1 hO5.mem.2) (by decide) ?_   -- t29 := convert 35 9 t28 [if 2=true]
  refine WL.gval rfl rfl (Y.move rfl) (by decide) ?_   -- t30 := move t0 [if 2=true]
  refine WL.gval rfl rfl (Y.bytes_string Try.underlying35 Try.underlying5 Try.underlying9 rfl hbl.1 (hb0.ext ((hx1.thenExt hx2).thenExt hx5)).mem.1 hb0.mem.2) (by decide) ?_   -- t31 := convert 35 9 t30 [if 2=true]
  refine WL.gval rfl rfl (Y.eql_string rfl rfl) (by decide) ?_   -- t32 := binOp eql 9 t29 t31 9 [if 2=true]
  refine WL.val (Y.pick rfl rfl) (by decide) ?_   -- t33 := pick t27 t32 c(false)
  refine WL.val (Y.move rfl) (by decide) ?_   -- t34 := move t33
  refine WL.know (d := 34) (u := .bool true) rfl (by rw [beq_self_eq_true]) ?_
  refine WL.gval rfl rfl (Y.load Try.underlying31 rfl hM3 (sz_apiCommit _ _ _ _) rfl) (by decide) ?_   -- t35 := load 31 t3 [if 9=true]
  refine WL.gcall rfl rfl Try.func17 rfl rfl rfl (may_any _ (decC b) _ ⟨_, _, rfl, hP01.ext (hx2.thenExt hx5), hQ01.ext (hx2.thenExt hx5), decC_max.1, decC_max.2⟩) (by decide) ?_; rintro v w6 ⟨rfl, hx6⟩; have hM3 := hM3.ext hx6   -- t36 := call F17(t35) : 31 [if 9=true]
  refine WL.gval rfl rfl (Y.eql rfl rfl) (by decide) ?_   -- t37 := binOp eql 25 t36 c(0:i64) 25 [if 9=true]
  refine WL.val (Y.pick rfl rfl) (by decide) ?_   -- t38 := pick t34 t37 c(false)
  refine WL.val (Y.move rfl) (by decide) ?_   -- t39 := move t38
  refine WL.know (d := 39) (u := .bool true) rfl (by rw [decide_eq_true hok.1]) ?_
  refine WL.gcall rfl rfl Try.func14 rfl rfl rfl (alive_any _) (by decide) ?_; rintro v w7 ⟨rfl, hx7⟩; have hM3 := hM3.ext hx7   -- t40 := call F14() :  [if 14=true]
  refine WL.val (Y.pick rfl rfl) (by decide) ?_   -- t41 := pick t39 t40 c(false)
  refine WL.val (Y.assign rfl) (by decide) ?_   -- t2 := assign t41
  refine WL.nil ?_
  refine hK8 _ _ ?_; try clear hK8 K8
  refine CW.ret ⟨_, rfl, ?_⟩
  exact ⟨rfl, ((((hx1.thenExt hx2).thenExt hx5).thenExt hx6).thenExt hx7)⟩
theorem heads_any (u : Value) (c : ComD) (i : Int) (w : World) (hc : Com w u c) : Calls Try.prog 9 #[u, .int .i64 i] w (Ret (True_ w)) := by
  have hc0 := hc
  obtain ⟨pv, ov, rfl, _⟩ := hc
  refine calls_of_CW 65 [4] [(0, .agg (comC pv c.author c.note ov).toArray), (1, .int .i64 i)] Try.func9 rfl rfl rfl (by simp) args2 ?_
  refine CW.seq fun K1 hK1 => ?_
  refine CW.region ?_   -- region 0
  refine WL.box rfl rfl (by decide) fun g2 w1 hx1 hg2 hB2 => ?_   -- t2 := box 31 t0
  have hlt2 := hB2.lt; have hz1 := hx1.size
  have hM2 := hB2.mem
  refine WL.val (Y.assign rfl) (by decide) ?_   -- t4 := assign c(false)
  refine WL.nil ?_
  refine hK1 _ _ ?_; try clear hK1 K1
  refine CW.seq fun K2 hK2 => ?_
  refine CW.region ?_   -- region 1
  refine WL.val (Y.load Try.underlying31 rfl hM2 (sz_apiCommit _ _ _ _) rfl) (by decide) ?_   -- t12 := load 31 t2
  refine WL.call Try.func26 rfl rfl rfl (encode_any _ c _ (hc0.ext hx1)) (by simp) ?_; rintro v13 w2 hR2   -- t13 := call F26(t12) : 31
  obtain ⟨u2, rfl, hA2⟩ := hR2
  have hx2 := hA2.nilExt
  have hO2 := hA2.nilOwn.by
  obtain ⟨A2, m2, c2, rfl⟩ := hO2.lens
  have hl2 := hO2.len
  have hne : (mayI c ≠ 0 ∨ m2 = 0) → mayI c ≠ 0 := by
    rintro (h | h)
    · exact h
    · intro h0; rw [if_pos h0] at hl2; have := comB_pos c; omega
  refine WL.val (Y.move rfl) (by decide) ?_   -- t11 := move t13
  refine WL.val (Y.extract rfl rfl) (by decide) ?_   -- t14 := extract t11 0
  refine WL.val (Y.extract rfl rfl) (by decide) ?_   -- t15 := extract t11 1
  refine WL.val (Y.assign rfl) (by decide) ?_   -- t5 := assign t14
  refine WL.val (Y.assign rfl) (by decide) ?_   -- t6 := assign t15
  refine WL.nil ?_
  refine hK2 _ _ ?_; try clear hK2 K2
  refine CW.seq fun K3 hK3 => ?_
  refine CW.seq_test 22 (mayI c ≠ 0 ∨ m2 = 0) ?_ ?_
  · refine CW.region ?_
    refine WL.val (Y.move rfl) (by decide) ?_   -- t16 := move t6
    refine WL.val (Y.neq rfl rfl) (by decide) ?_   -- t17 := binOp neq 25 t16 c(0:i64) 25
    refine WL.val (Y.move rfl) (by decide) ?_   -- t18 := move t17
    first | refine WL.casesD (d := 18) rfl (fun hg18 => ?_) (fun hg18 => ?_) | refine WL.casesND (d := 18) rfl (fun hg18 => ?_) (fun hg18 => ?_) | refine WL.cases (d := 18) rfl (fun hg18 => ?_) (fun hg18 => ?_)
    · -- t18 = T
      refine WL.goff rfl rfl (by decide) ?_   -- t19 := move t5 [if 2=false]
      refine WL.goff rfl rfl (by decide) ?_   -- t20 := call len(t19) : 35 [if 2=false]
      refine WL.goff rfl rfl (by decide) ?_   -- t21 := binOp eql 3 t20 c(0:i64) 3 [if 2=false]
      refine WL.val (Y.pick rfl rfl) (by decide) ?_   -- t22 := pick t18 c(true) t21
      refine WL.nil ⟨⟨_, rfl, ?_⟩, rfl, (by repeat (first | exact Fr.le.refl | refine Fr.le.push rfl ?_))⟩
      first | (simp only [*, Bool.not_eq_true', decide_eq_false_iff_not, decide_eq_true_eq, not_true_eq_false, not_false_eq_true, true_and, false_and, and_true, and_false, false_or, or_false, true_or, or_true, iff_true, true_iff, iff_false, false_iff]; done) | (simp_all; done) | (refine congrArg Value.bool (Bool.eq_iff_iff.2 ?_); simp_all; done) | (simp_all; omega)
    · -- t18 = F
      refine WL.gval rfl rfl (Y.move rfl) (by decide) ?_   -- t19 := move t5 [if 2=false]
      refine WL.gval rfl rfl (Y.len_slice Try.underlying35 rfl) (by decide) ?_   -- t20 := call len(t19) : 35 [if 2=false]
      refine WL.gval rfl rfl (Y.eql rfl rfl) (by decide) ?_   -- t21 := binOp eql 3 t20 c(0:i64) 3 [if 2=false]
      refine WL.val (Y.pick rfl rfl) (by decide) ?_   -- t22 := pick t18 c(true) t21
      refine WL.nil ⟨⟨_, rfl, ?_⟩, rfl, (by repeat (first | exact Fr.le.refl | refine Fr.le.push rfl ?_))⟩
      first | (simp only [*, Bool.not_eq_true', decide_eq_false_iff_not, decide_eq_true_eq, not_true_eq_false, not_false_eq_true, true_and, false_and, and_true, and_false, false_or, or_false, true_or, or_true, iff_true, true_iff, iff_false, false_iff]; done) | (simp_all; done) | (refine congrArg Value.bool (Bool.eq_iff_iff.2 ?_); simp_all; done) | (simp_all; omega)
  first | refine CW.condD rfl (fun ht4 => ?_) (fun ht4 => ?_) | refine CW.condND rfl (fun ht4 => ?_) (fun ht4 => ?_) | refine CW.condN rfl (fun ht4 => ?_) (fun ht4 => ?_) | refine CW.cond rfl (fun ht4 => ?_) (fun ht4 => ?_)
  · -- then
    refine CW.seq fun K5 hK5 => ?_
    refine CW.region ?_   -- region 3
    refine WL.val (Y.move rfl) (by decide) ?_   -- t23 := move t6
    refine WL.val (Y.neq rfl rfl) (by decide) ?_   -- t24 := binOp neq 25 t23 c(0:i64) 25
    refine WL.val (Y.move rfl) (by decide) ?_   -- t25 := move t24
    refine WL.know (d := 25) (u := .bool true) rfl (by rw [decide_eq_true (hne (by assumption))]) ?_
    refine WL.gcall rfl rfl Try.func14 rfl rfl rfl (alive_any _) (by decide) ?_; rintro v w3 ⟨rfl, hx3⟩   -- t26 := call F14() :  [if 2=true]
    refine WL.val (Y.pick rfl rfl) (by decide) ?_   -- t27 := pick t25 t26 c(false)
    refine WL.val (Y.assign rfl) (by decide) ?_   -- t4 := assign t27
    refine WL.nil ?_
    refine hK5 _ _ ?_; try clear hK5 K5
    refine CW.ret ⟨_, rfl, ?_⟩
    exact ⟨rfl, (hx1.thenExt hx2).thenExt hx3⟩
  -- else
  refine CW.skip ?_
  refine hK3 _ _ ?_; try clear hK3 K3
  refine CW.seq fun K6 hK6 => ?_
  refine CW.region ?_   -- region 4
  have hm0 : mayI c = 0 := by omega
  rw [if_pos hm0] at hA2 hO2 hl2
  have hbl := comB_len hm0
  obtain ⟨ht0, ht1⟩ := tmod_pos (i := i) (m := m2) (by omega)
  obtain ⟨k, hk, hkm⟩ := tmod_twice (i := i) (m := m2) (by omega)
  refine WL.val (Y.move rfl) (by decide) ?_   -- t28 := move t1
  refine WL.val (Y.move rfl) (by decide) ?_   -- t29 := move t5
  refine WL.val (Y.len_slice Try.underlying35 rfl) (by decide) ?_   -- t30 := call len(t29) : 35
  refine WL.val (Y.rem rfl rfl (by omega)) (by decide) ?_   -- t31 := binOp rem 3 t28 t30 3
  refine WL.val (Y.move rfl) (by decide) ?_   -- t32 := move t5
  refine WL.val (Y.len_slice Try.underlying35 rfl) (by decide) ?_   -- t33 := call len(t32) : 35
  refine WL.val (Y.add rfl rfl ⟨by omega, by omega⟩) (by decide) ?_   -- t34 := binOp add 3 t31 t33 3
  refine WL.val (Y.move rfl) (by decide) ?_   -- t35 := move t5
  refine WL.val (Y.len_slice Try.underlying35 rfl) (by decide) ?_   -- t36 := call len(t35) : 35
  refine WL.val (Y.rem rfl rfl (by omega)) (by decide) ?_   -- t37 := binOp rem 3 t34 t36 3
  refine WL.val (Y.assign rfl) (by decide) ?_   -- t1 := assign t37
  refine WL.nil ?_
  refine hK6 _ _ ?_; try clear hK6 K6
  refine CW.seq fun K7 hK7 => ?_
  refine CW.region ?_   -- region 5
  rw [hk]
  rw [← hl2.1] at hkm
  refine WL.val (Y.move rfl) (by decide) ?_   -- t39 := move t5
  refine WL.val (Y.move rfl) (by decide) ?_   -- t40 := move t1
  refine WL.val (Y.slice_hi Try.underlying35 rfl rfl sz0_uint8 rfl (by omega)) (by decide) ?_   -- t41 := slice 35 t39 none t40 none
  refine WL.call Try.func20 rfl rfl rfl (decode_any _ ((comB c).take k) _ (hO2.take (by omega))) (by simp) ?_; rintro v42 w4 hR4   -- t42 := call F20(t41) : 35
  obtain ⟨pv4, ov4, rfl, hx4, hP4, hQ4, _, _⟩ := hR4
  have hP04 := hP4
  have hQ04 := hQ4
  obtain ⟨Ap4, mp4, cp4, rfl, _⟩ := hP4
  obtain ⟨Ao4, mo4, co4, rfl, _⟩ := hQ4
  refine WL.val (Y.move rfl) (by decide) ?_   -- t38 := move t42
  refine WL.val (Y.extract rfl rfl) (by decide) ?_   -- t43 := extract t38 0
  refine WL.val (Y.extract rfl rfl) (by decide) ?_   -- t44 := extract t38 1
  refine as_apiCommit rfl (by simp) (by decide) fun g7 w5 hx5 hg7 hB7 => ?_   -- alloc 31; store 31 t7 t43
  have hlt7 := hB7.lt; have hz5 := hx5.size
  have hM7 := hB7.mem
  refine WL.val (Y.assign rfl) (by decide) ?_   -- t8 := assign t44
  refine WL.nil ?_
  refine hK7 _ _ ?_; try clear hK7 K7
  refine CW.seq fun K8 hK8 => ?_
  refine CW.region ?_   -- region 6
  refine WL.st (St.buildSlice0 Try.underlying35 sz_uint8) (by decide) fun v46 w6 hR6 => ?_   -- t46 := buildSlice 35 0 []
  obtain ⟨g46, rfl, hg46, hO46, hx6⟩ := hR6
  have hE5 := (((hx1.thenExt hx2).thenExt hx4).thenExt hx5)
  have hE6 := hE5.thenExt hx6
  refine WL.val (Y.move rfl) (by decide) ?_   -- t47 := move t5
  refine WL.st (St.app (xs := []) (ys := comB c) Try.underlying35 Try.underlying35 ai_u8 rfl rfl hO46 (Src.by (hO2.ext ((hx4.thenExt hx5).thenExt hx6))) (by simp; omega)) (by decide) fun v48 w7 hR7 => ?_   -- t48 := call append(t46, t47) : 35,35
  have hS : ∀ k, (Value.slice (some ⟨g46, 0, none⟩) 0 0).ownBlock = some k → w5.heap.size ≤ k := fun k h => by simp [Value.ownBlock] at h; omega
  have hE7 : Ext w w7 := hE6.step hR7.2.1 (fun k h => by have := hS k h; have := hE5.size; omega)
  have hO7 : Own w7 5 1 v48 (bytesC (comB c)) := by simpa using hR7.1
  have hf7 : ∀ k, v48.ownBlock = some k → w5.heap.size ≤ k := by
    rcases hR7.2.2 with h | h
    · intro k hk; rw [h] at hk; exact hS k hk
    · intro k hk; have := h k hk; have := hx6.size; omega
  refine WL.val (Y.move rfl) (by decide) ?_   -- t49 := move t1
  refine WL.val (Y.conv_int Try.underlying3 Try.underlying5 rfl) (by decide) ?_   -- t50 := convert 3 5 t49
  refine WL.st (St.buildSlice rfl (bs1 _)) (by decide) fun v51 w8 hR8 => ?_   -- t51 := buildSlice 35 1 [(0,t50)]
  obtain ⟨g51, rfl, hg51, hB51, hx8⟩ := hR8
  rw [u8_of] at hB51
  have hE8 := hE7.thenExt hx8
  have hO8 := hO7.ext hx8
  refine WL.st (St.app (ys := [UInt8.ofNat k]) Try.underlying35 Try.underlying35 ai_u8 rfl rfl hO8 (Src.arr (ys := [UInt8.ofNat k]) hB51.mem) (by simp; omega)) (by decide) fun v52 w9 hR9 => ?_   -- t52 := call append(t48, t51) : 35,35
  have hE9 : Ext w w9 := hE8.step hR9.2.1 (fun k h => by have := hf7 k h; have := hE5.size; omega)
  have hO9 := hR9.1.by
  refine WL.call Try.func20 rfl rfl rfl (decode_any _ (comB c ++ [UInt8.ofNat k]) _ hO9) (by simp) ?_; rintro v53 w10 hR10   -- t53 := call F20(t52) : 35
  obtain ⟨pv10, ov10, rfl, hx10, hP10, hQ10, _, _⟩ := hR10
  have hP010 := hP10
  have hQ010 := hQ10
  obtain ⟨Ap10, mp10, cp10, rfl, _⟩ := hP10
  obtain ⟨Ao10, mo10, co10, rfl, _⟩ := hQ10
  refine WL.val (Y.move rfl) (by decide) ?_   -- t45 := move t53
  refine WL.val (Y.extract rfl rfl) (by decide) ?_   -- t54 := extract t45 0
  refine WL.val (Y.extract rfl rfl) (by decide) ?_   -- t55 := extract t45 1
  refine as_apiCommit rfl (by simp) (by decide) fun g9 w11 hx11 hg9 hB9 => ?_   -- alloc 31; store 31 t9 t54
  have hlt9 := hB9.lt; have hz11 := hx11.size
  have hM9 := hB9.mem
  refine WL.val (Y.assign rfl) (by decide) ?_   -- t10 := assign t55
  refine WL.nil ?_
  refine hK8 _ _ ?_; try clear hK8 K8
  refine CW.seq fun K9 hK9 => ?_
  refine CW.region ?_   -- region 7
  refine WL.val (Y.move rfl) (by decide) ?_   -- t56 := move t8
  refine WL.val (Y.eql rfl rfl) (by decide) ?_   -- t57 := binOp eql 25 t56 c(8:i64) 25
  refine WL.val (Y.move rfl) (by decide) ?_   -- t58 := move t57
  refine WL.know (d := 58) (u := .bool true) rfl (by rw [decide_eq_true (decE_head hm0 hkm)]) ?_
  refine WL.gval rfl rfl (Y.move rfl) (by decide) ?_   -- t59 := move t10 [if 2=true]
  refine WL.gval rfl rfl (Y.eql rfl rfl) (by decide) ?_   -- t60 := binOp eql 25 t59 c(7:i64) 25 [if 2=true]
  refine WL.val (Y.pick rfl rfl) (by decide) ?_   -- t61 := pick t58 t60 c(false)
  refine WL.val (Y.move rfl) (by decide) ?_   -- t62 := move t61
  refine WL.know (d := 62) (u := .bool true) rfl (by rw [decide_eq_true (decE_tail hm0 _)]) ?_
  refine WL.gcall rfl rfl Try.func14 rfl rfl rfl (alive_any _) (by decide) ?_; rintro v w12 ⟨rfl, hx12⟩   -- t63 := call F14() :  [if 6=true]
  refine WL.val (Y.pick rfl rfl) (by decide) ?_   -- t64 := pick t62 t63 c(false)
  refine WL.val (Y.assign rfl) (by decide) ?_   -- t4 := assign t64
  refine WL.nil ?_
  refine hK9 _ _ ?_; try clear hK9 K9
  refine CW.ret ⟨_, rfl, ?_⟩
  exact ⟨rfl, (((hE9.thenExt hx10).thenExt hx11).thenExt hx12)⟩
theorem unlike_any (u v : Value) (a b : ComD) (w : World) (hu : Com w u a) (hv : Com w v b) : Calls Try.prog 10 #[u, v] w (Ret (True_ w)) := by
  have hu0 := hu
  have hv0 := hv
  obtain ⟨pa, oa, rfl, _⟩ := hu
  obtain ⟨pb, ob, rfl, _⟩ := hv
  refine calls_of_CW 39 [4] [(0, .agg (comC pa a.author a.note oa).toArray), (1, .agg (comC pb b.author b.note ob).toArray)] Try.func10 rfl rfl rfl (by simp) args2 ?_
  refine CW.seq fun K1 hK1 => ?_
  refine CW.region ?_   -- region 0
  refine WL.box rfl rfl (by decide) fun g2 w1 hx1 hg2 hB2 => ?_   -- t2 := box 31 t0
  have hlt2 := hB2.lt; have hz1 := hx1.size
  have hM2 := hB2.mem
  refine WL.box rfl rfl (by decide) fun g3 w2 hx2 hg3 hB3 => ?_   -- t3 := box 31 t1
  have hlt3 := hB3.lt; have hz2 := hx2.size
  have hM3 := hB3.mem; have hM2 := hM2.ext hx2
  refine WL.val (Y.assign rfl) (by decide) ?_   -- t4 := assign c(false)
  refine WL.nil ?_
  refine hK1 _ _ ?_; try clear hK1 K1
  refine CW.seq fun K2 hK2 => ?_
  refine CW.region ?_   -- region 1
  refine WL.val (Y.load Try.underlying31 rfl hM2 (sz_apiCommit _ _ _ _) rfl) (by decide) ?_   -- t10 := load 31 t2
  refine WL.call Try.func26 rfl rfl rfl (encode_any _ a _ (hu0.ext (hx1.thenExt hx2))) (by simp) ?_; rintro v11 w3 hR3   -- t11 := call F26(t10) : 31
  obtain ⟨u3, rfl, hA3⟩ := hR3
  have hx3 := hA3.nilExt
  have hO3 := hA3.nilOwn.by
  obtain ⟨A3, m3, c3, rfl⟩ := hO3.lens
  skip; have hM2 := hM2.ext hx3; have hM3 := hM3.ext hx3
  refine WL.val (Y.move rfl) (by decide) ?_   -- t9 := move t11
  refine WL.val (Y.extract rfl rfl) (by decide) ?_   -- t12 := extract t9 0
  refine WL.val (Y.extract rfl rfl) (by decide) ?_   -- t13 := extract t9 1
  refine WL.val (Y.assign rfl) (by decide) ?_   -- t5 := assign t12
  refine WL.val (Y.assign rfl) (by decide) ?_   -- t6 := assign t13
  refine WL.nil ?_
  refine hK2 _ _ ?_; try clear hK2 K2
  refine CW.seq fun K3 hK3 => ?_
  refine CW.region ?_   -- region 2
  refine WL.val (Y.load Try.underlying31 rfl hM3 (sz_apiCommit _ _ _ _) rfl) (by decide) ?_   -- t15 := load 31 t3
  refine WL.call Try.func26 rfl rfl rfl (encode_any _ b _ (hv0.ext ((hx1.thenExt hx2).thenExt hx3))) (by simp) ?_; rintro v16 w4 hR4   -- t16 := call F26(t15) : 31
  obtain ⟨u4, rfl, hA4⟩ := hR4
  have hx4 := hA4.nilExt
  have hO4 := hA4.nilOwn.by
  obtain ⟨A4, m4, c4, rfl⟩ := hO4.lens
  skip; have hM2 := hM2.ext hx4; have hM3 := hM3.ext hx4
  refine WL.val (Y.move rfl) (by decide) ?_   -- t14 := move t16
  refine WL.val (Y.extract rfl rfl) (by decide) ?_   -- t17 := extract t14 0
  refine WL.val (Y.extract rfl rfl) (by decide) ?_   -- t18 := extract t14 1
  refine WL.val (Y.assign rfl) (by decide) ?_   -- t7 := assign t17
  refine WL.val (Y.assign rfl) (by decide) ?_   -- t8 := assign t18
  refine WL.nil ?_
  refine hK3 _ _ ?_; try clear hK3 K3
  refine CW.seq fun K4 hK4 => ?_
  refine CW.quiet (fun wq => Ext w4 wq) (by kernel_rfl) (by kernel_rfl) Chg.drew ?_
  refine QL.val (fun wq hq => Y.move rfl) (by decide) ?_   -- t19 := move t6
  refine QL.val (fun wq hq => Y.neq rfl rfl) (by decide) ?_   -- t20 := binOp neq 25 t19 c(0:i64) 25
  refine QL.val (fun wq hq => Y.move rfl) (by decide) ?_   -- t21 := move t20
  first | refine QL.casesD (d := 21) rfl (fun hg21 => ?_) (fun hg21 => ?_) | refine QL.casesND (d := 21) rfl (fun hg21 => ?_) (fun hg21 => ?_) | refine QL.cases (d := 21) rfl (fun hg21 => ?_) (fun hg21 => ?_)
  · -- t21 = T
    refine QL.goff rfl rfl (by decide) ?_   -- t22 := move t8 [if 2=false]
    refine QL.goff rfl rfl (by decide) ?_   -- t23 := binOp neq 25 t22 c(0:i64) 25 [if 2=false]
    refine QL.val (fun wq hq => Y.pick rfl rfl) (by decide) ?_   -- t24 := pick t21 c(true) t23
    refine QL.val (fun wq hq => Y.move rfl) (by decide) ?_   -- t25 := move t24
    refine QL.goff rfl rfl (by decide) ?_   -- t26 := move t5 [if 6=false]
    refine QL.goff rfl rfl (by decide) ?_   -- t27 := convert 35 9 t26 [if 6=false]
    refine QL.goff rfl rfl (by decide) ?_   -- t28 := move t7 [if 6=false]
    refine QL.goff rfl rfl (by decide) ?_   -- t29 := convert 35 9 t28 [if 6=false]
    refine QL.goff rfl rfl (by decide) ?_   -- t30 := binOp eql 9 t27 t29 9 [if 6=false]
    refine QL.goff rfl rfl (by decide) ?_   -- t31 := load 31 t2 [if 6=false]
    refine QL.goff rfl rfl (by decide) ?_   -- t32 := load 31 t3 [if 6=false]
    refine QL.goff rfl rfl (by decide) ?_   -- t33 := call F24(t31, t32) : 31,31 [if 6=false]
    refine QL.goff rfl rfl (by decide) ?_   -- t34 := binOp eql 4 t30 t33 4 [if 6=false]
    refine QL.val (fun wq hq => Y.pick rfl rfl) (by decide) ?_   -- t35 := pick t25 c(true) t34
    refine QL.val (fun wq hq => Y.move rfl) (by decide) ?_   -- t36 := move t35
    refine QL.gcall rfl rfl Try.func14 rfl rfl rfl (fun wq hq => ret_ext (alive_any _) hq) (by decide) ?_   -- t37 := call F14() :  [if 17=true]
    refine QL.val (fun wq hq => Y.pick rfl rfl) (by decide) ?_   -- t38 := pick t36 t37 c(false)
    refine QL.val (fun wq hq => Y.assign rfl) (by decide) ?_   -- t4 := assign t38
    refine QL.nil fun w5 hx5 => ?_
    have hM2 := hM2.ext hx5
    have hM3 := hM3.ext hx5
    refine hK4 _ _ ?_; try clear hK4 K4
    refine CW.ret ⟨_, rfl, ?_⟩
    exact ⟨rfl, ((((hx1.thenExt hx2).thenExt hx3).thenExt hx4).thenExt hx5)⟩
  · -- t21 = F
    refine QL.gval rfl rfl (fun wq hq => Y.move rfl) (by decide) ?_   -- t22 := move t8 [if 2=false]
    refine QL.gval rfl rfl (fun wq hq => Y.neq rfl rfl) (by decide) ?_   -- t23 := binOp neq 25 t22 c(0:i64) 25 [if 2=false]
    refine QL.val (fun wq hq => Y.pick rfl rfl) (by decide) ?_   -- t24 := pick t21 c(true) t23
    refine QL.val (fun wq hq => Y.move rfl) (by decide) ?_   -- t25 := move t24
    first | refine QL.casesD (d := 25) rfl (fun hg25 => ?_) (fun hg25 => ?_) | refine QL.casesND (d := 25) rfl (fun hg25 => ?_) (fun hg25 => ?_) | refine QL.cases (d := 25) rfl (fun hg25 => ?_) (fun hg25 => ?_)
    · -- t25 = T
      refine QL.goff rfl rfl (by decide) ?_   -- t26 := move t5 [if 6=false]
      refine QL.goff rfl rfl (by decide) ?_   -- t27 := convert 35 9 t26 [if 6=false]
      refine QL.goff rfl rfl (by decide) ?_   -- t28 := move t7 [if 6=false]
      refine QL.goff rfl rfl (by decide) ?_   -- t29 := convert 35 9 t28 [if 6=false]
      refine QL.goff rfl rfl (by decide) ?_   -- t30 := binOp eql 9 t27 t29 9 [if 6=false]
      refine QL.goff rfl rfl (by decide) ?_   -- t31 := load 31 t2 [if 6=false]
      refine QL.goff rfl rfl (by decide) ?_   -- t32 := load 31 t3 [if 6=false]
      refine QL.goff rfl rfl (by decide) ?_   -- t33 := call F24(t31, t32) : 31,31 [if 6=false]
      refine QL.goff rfl rfl (by decide) ?_   -- t34 := binOp eql 4 t30 t33 4 [if 6=false]
      refine QL.val (fun wq hq => Y.pick rfl rfl) (by decide) ?_   -- t35 := pick t25 c(true) t34
      refine QL.val (fun wq hq => Y.move rfl) (by decide) ?_   -- t36 := move t35
      refine QL.gcall rfl rfl Try.func14 rfl rfl rfl (fun wq hq => ret_ext (alive_any _) hq) (by decide) ?_   -- t37 := call F14() :  [if 17=true]
      refine QL.val (fun wq hq => Y.pick rfl rfl) (by decide) ?_   -- t38 := pick t36 t37 c(false)
      refine QL.val (fun wq hq => Y.assign rfl) (by decide) ?_   -- t4 := assign t38
      refine QL.nil fun w6 hx6 => ?_
      have hM2 := hM2.ext hx6
      have hM3 := hM3.ext hx6
      refine hK4 _ _ ?_; try clear hK4 K4
      refine CW.ret ⟨_, rfl, ?_⟩
      exact ⟨rfl, ((((hx1.thenExt hx2).thenExt hx3).thenExt hx4).thenExt hx6)⟩
    · -- t25 = F
      refine QL.gval rfl rfl (fun wq hq => Y.move rfl) (by decide) ?_   -- t26 := move t5 [if 6=false]
      refine QL.gval rfl rfl (fun wq hq => Y.bytes_string Try.underlying35 Try.underlying5 Try.underlying9 rfl hO3.len.1 (hO3.ext (hx4.thenExt hq)).mem.1 hO3.mem.2) (by decide) ?_   -- t27 := convert 35 9 t26 [if 6=false]
      refine QL.gval rfl rfl (fun wq hq => Y.move rfl) (by decide) ?_   -- t28 := move t7 [if 6=false]
      refine QL.gval rfl rfl (fun wq hq => Y.bytes_string Try.underlying35 Try.underlying5 Try.underlying9 rfl hO4.len.1 (hO4.ext hq).mem.1 hO4.mem.2) (by decide) ?_   -- t29 := convert 35 9 t28 [if 6=false]
      refine QL.gval rfl rfl (fun wq hq => Y.eql_string rfl rfl) (by decide) ?_   -- t30 := binOp eql 9 t27 t29 9 [if 6=false]
      refine QL.gval rfl rfl (fun wq hq => Y.load Try.underlying31 rfl (hM2.ext hq) (sz_apiCommit _ _ _ _) rfl) (by decide) ?_   -- t31 := load 31 t2 [if 6=false]
      refine QL.gval rfl rfl (fun wq hq => Y.load Try.underlying31 rfl (hM3.ext hq) (sz_apiCommit _ _ _ _) rfl) (by decide) ?_   -- t32 := load 31 t3 [if 6=false]
      refine QL.gcall rfl rfl Try.func24 rfl rfl rfl (fun wq hq => ret_ext (same_any _ _ a b _ (hu0.ext ((((hx1.thenExt hx2).thenExt hx3).thenExt hx4).thenExt hq)) (hv0.ext ((((hx1.thenExt hx2).thenExt hx3).thenExt hx4).thenExt hq))) hq) (by decide) ?_   -- t33 := call F24(t31, t32) : 31,31 [if 6=false]
      refine QL.gval rfl rfl (fun wq hq => Y.eql_bool Try.underlying4 rfl rfl) (by decide) ?_   -- t34 := binOp eql 4 t30 t33 4 [if 6=false]
      refine QL.val (fun wq hq => Y.pick rfl rfl) (by decide) ?_   -- t35 := pick t25 c(true) t34
      refine QL.val (fun wq hq => Y.move rfl) (by decide) ?_   -- t36 := move t35
      refine QL.know (d := 36) (u := .bool true) rfl (by rw [if_pos (by omega), if_pos (by omega), bs_toList, bs_toList, same_com (by omega) (by omega), beq_self_eq_true]) ?_
      refine QL.gcall rfl rfl Try.func14 rfl rfl rfl (fun wq hq => ret_ext (alive_any _) hq) (by decide) ?_   -- t37 := call F14() :  [if 17=true]
      refine QL.val (fun wq hq => Y.pick rfl rfl) (by decide) ?_   -- t38 := pick t36 t37 c(false)
      refine QL.val (fun wq hq => Y.assign rfl) (by decide) ?_   -- t4 := assign t38
      refine QL.nil fun w7 hx7 => ?_
      have hM2 := hM2.ext hx7
      have hM3 := hM3.ext hx7
      refine hK4 _ _ ?_; try clear hK4 K4
      refine CW.ret ⟨_, rfl, ?_⟩
      exact ⟨rfl, ((((hx1.thenExt hx2).thenExt hx3).thenExt hx4).thenExt hx7)⟩
end Go.Proofs.Ytfbagecopapfhaa
