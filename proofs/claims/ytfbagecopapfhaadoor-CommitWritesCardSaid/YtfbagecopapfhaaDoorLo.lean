/- Own, walked. No condition. -/
import Derived.Test.YtfbagecopapfhaaDoorKo
set_option linter.unusedSimpArgs false
set_option linter.unusedVariables false
namespace Go.Proofs.YtfbagecopapfhaaDoor
open Go.RowKit Go.Fw Go.Pl
theorem one_flat {α : Type} {enc : α → List Value} (h : ∀ x, ∀ u ∈ enc x, u.oneCell' = true) {xs : List α} : ∀ u ∈ (xs.map enc).flatten, u.oneCell' = true := by
  intro u hu
  obtain ⟨l, hl, hu⟩ := List.mem_flatten.1 hu
  obtain ⟨d, _, rfl⟩ := List.mem_map.1 hl
  exact h d u hu

theorem own_any (u : Value) (c : ComD) (w : World) (hc : Com w u c) (hp : c.parents.length * 32 ≤ 140737488351232) (ho : c.ops.length * 72 ≤ 140737488351232) : Calls Tryd.prog 5 #[u] w (Ret fun v w' => Com w' v c ∧ Ext w w') := by
  obtain ⟨ic, hic, hzc⟩ := info_com
  obtain ⟨pv, ov, rfl, hpp, hoo, hau, hno⟩ := hc
  obtain ⟨Ap, cp, rfl, _, _⟩ := hpp.lens
  obtain ⟨Ao, co, rfl, _, _⟩ := hoo.lens
  refine calls_of_CWc 14 2 4 [(0, .agg (comC (.slice Ap c.parents.length cp) c.author c.note (.slice Ao c.ops.length co)).toArray)] Tryd.func5 rfl rfl rfl Tryd.underlying25 rfl (by kernel_rfl) (by simp) args1 ?_
  refine CW.seq fun K1 hK1 => ?_
  refine CW.region ?_   -- region 0
  refine WL.box rfl rfl (by decide) fun g1 w1 hx1 hg1 hB1 => ?_   -- t1 := box 25 t0
  have hlt1 := hB1.lt; have hz1 := hx1.size
  have hM1 := hB1.mem
  refine WL.alloc (hic) (hzc) rfl (by decide) fun g2 w2 hx2 hg2 hB2 => ?_   -- t2 := alloc 25
  have hlt2 := hB2.lt; have hz2 := hx2.size
  have hM2 := hB2.mem; have hB1 := hB1.ext hx2
  refine WL.nil ?_
  refine hK1 _ _ ?_; try clear hK1 K1
  refine CW.seq fun K2 hK2 => ?_
  refine CW.region ?_   -- region 1
  refine WL.st (St.buildSlice0 Tryd.underlying22 sz_dig) (by decide) fun v3 w3 hR3 => ?_   -- t3 := buildSlice 22 0 []
  obtain ⟨g3, rfl, hg3, hO3, hx3⟩ := hR3
  have hB1 := hB1.ext hx3
  have hB2 := hB2.ext hx3
  have hE3 := (hx1.thenExt hx2).thenExt hx3
  refine WL.val (Y.fieldAddr fo_apiCommit0 rfl) (by decide) ?_   -- t4 := fieldAddr 25 t1 0
  refine WL.val (Y.load1 Tryd.underlying22 rfl hB1.mem.com0 rfl) (by decide) ?_   -- t5 := load 22 t4
  refine WL.st (St.append Tryd.underlying22 Tryd.underlying22 ai_dig rfl rfl hO3 ((hpp.ext hE3).src digC_length) (one_flat fun x => one_digC) (by simp; omega)) (by decide) fun v6 w4 hR4 => ?_   -- t6 := call append(t3, t5) : 22,22
  obtain ⟨hO6, hc4, hf6⟩ := hR4
  have hS4 : ∀ k, (Value.slice (some ⟨g3, 0, none⟩) 0 0).ownBlock = some k → w2.heap.size ≤ k := fun k h => by simp [Value.ownBlock] at h; omega
  have hE4 : Ext w w4 := hE3.step hc4 (fun k h => by have := hS4 k h; omega)
  have hf6 : ∀ k, v6.ownBlock = some k → w2.heap.size ≤ k := by
    rcases hf6 with h | h
    · intro k hk; rw [h] at hk; exact hS4 k hk
    · intro k hk; have := h k hk; have := hx3.size; omega
  have hB1 := hB1.chg hc4 (fun h => by have := hS4 _ h; omega)
  have hB2 := hB2.chg hc4 (fun h => by have := hS4 _ h; omega)
  obtain ⟨A6, m6, c6, rfl⟩ := hO6.lens
  refine WL.val (Y.fieldAddr fo_apiCommit0 rfl) (by decide) ?_   -- t7 := fieldAddr 25 t1 0
  refine WL.store (g := g1) (pre := []) (old := [.slice Ap c.parents.length cp]) (post := [.string c.author, .string c.note, .slice Ao c.ops.length co]) (new := [.slice A6 m6 c6]) rfl rfl rfl rfl (by kernel_rfl) hB1 (by first | rfl | (simp [digC_length, opC_length]; done) | (simp only [digC_length, opC_length]; omega)) (one1 rfl) (fun w5 hc5 hB5_ => ?_)   -- _ := store 22 t7 t6
  have hB1 : Blk w5 g1 25 (comC (.slice A6 m6 c6) c.author c.note (.slice Ao c.ops.length co)) := hB5_
  have hE5 : Ext w w5 := hE4.step hc5 (fun k h => by omega)
  have hB2 := hB2.chg hc5 (fun h => by omega)
  have hO6 := hO6.chg hc5 (fun k hk h => by have := hf6 k hk; omega)
  refine WL.nil ?_
  refine hK2 _ _ ?_; try clear hK2 K2
  refine CW.seq fun K3 hK3 => ?_
  refine CW.region ?_   -- region 2
  refine WL.st (St.buildSlice0 Tryd.underlying23 sz_op) (by decide) fun v8 w6 hR6 => ?_   -- t8 := buildSlice 23 0 []
  obtain ⟨g8, rfl, hg8, hO8, hx6⟩ := hR6
  have hB1 := hB1.ext hx6
  have hlt2 := hB2.lt
  have hB2 := hB2.ext hx6
  have hlt6 := hO6.lt
  have hO6 := hO6.ext hx6
  have hE6 := hE5.thenExt hx6
  have hsw := hE5.size
  refine WL.val (Y.fieldAddr fo_apiCommit3 rfl) (by decide) ?_   -- t9 := fieldAddr 25 t1 3
  refine WL.val (Y.load1 Tryd.underlying23 rfl hB1.mem.com3 rfl) (by decide) ?_   -- t10 := load 23 t9
  refine WL.st (St.append Tryd.underlying23 Tryd.underlying23 ai_op rfl rfl hO8 ((hoo.ext hE6).src opC_length) (one_flat fun x => one_opC) (by simp; omega)) (by decide) fun v11 w7 hR7 => ?_   -- t11 := call append(t8, t10) : 23,23
  obtain ⟨hO11, hc7, hf11⟩ := hR7
  have hS7 : ∀ k, (Value.slice (some ⟨g8, 0, none⟩) 0 0).ownBlock = some k → w5.heap.size ≤ k := fun k h => by simp [Value.ownBlock] at h; omega
  have hE7 : Ext w w7 := hE6.step hc7 (fun k h => by have := hS7 k h; omega)
  have hf11 : ∀ k, v11.ownBlock = some k → w5.heap.size ≤ k := by
    rcases hf11 with h | h
    · intro k hk; rw [h] at hk; exact hS7 k hk
    · intro k hk; have := h k hk; have := hx6.size; omega
  have hB1 := hB1.chg hc7 (fun h => by have := hS7 _ h; omega)
  have hB2 := hB2.chg hc7 (fun h => by have := hS7 _ h; omega)
  have hO6 := hO6.chg hc7 (fun k hk h => by have := hS7 _ h; have := hlt6 k hk; omega)
  obtain ⟨A11, m11, c11, rfl⟩ := hO11.lens
  refine WL.val (Y.fieldAddr fo_apiCommit3 rfl) (by decide) ?_   -- t12 := fieldAddr 25 t1 3
  refine WL.store (g := g1) (pre := [.slice A6 m6 c6, .string c.author, .string c.note]) (old := [.slice Ao c.ops.length co]) (post := []) (new := [.slice A11 m11 c11]) rfl rfl rfl rfl (by kernel_rfl) hB1 (by first | rfl | (simp [digC_length, opC_length]; done) | (simp only [digC_length, opC_length]; omega)) (one1 rfl) (fun w8 hc8 hB8_ => ?_)   -- _ := store 23 t12 t11
  have hB1 : Blk w8 g1 25 (comC (.slice A6 m6 c6) c.author c.note (.slice A11 m11 c11)) := hB8_
  have hE8 : Ext w w8 := hE7.step hc8 (fun k h => by omega)
  have hB2 := hB2.chg hc8 (fun h => by omega)
  have hO6 := hO6.chg hc8 (fun k hk h => by have := hf6 k hk; omega)
  have hO11 := hO11.chg hc8 (fun k hk h => by have := hf11 k hk; have := hx6.size; omega)
  refine WL.nil ?_
  refine hK3 _ _ ?_; try clear hK3 K3
  refine CW.seq fun K4 hK4 => ?_
  refine CW.region ?_   -- region 3
  refine WL.val (Y.load Tryd.underlying25 rfl hB1.mem (sz_apiCommit _ _ _ _) rfl) (by decide) ?_   -- t13 := load 25 t1
  refine WL.store (g := g2) (pre := []) (old := comZ) (post := []) (new := comC (.slice A6 m6 c6) c.author c.note (.slice A11 m11 c11)) rfl rfl rfl rfl (sz_apiCommit _ _ _ _) (by simpa using hB2) (by first | rfl | (simp [digC_length, opC_length]; done) | (simp only [digC_length, opC_length]; omega)) (one_com) (fun w9 hc9 hB9_ => ?_)   -- _ := store 25 t2 t13
  have hB9 : Blk w9 g2 25 (comC (.slice A6 m6 c6) c.author c.note (.slice A11 m11 c11)) := by simpa using hB9_
  have hE9 : Ext w w9 := hE8.step hc9 (fun k h => by omega)
  have hO6 := hO6.chg hc9 (fun k hk h => by have := hf6 k hk; omega)
  have hO11 := hO11.chg hc9 (fun k hk h => by have := hf11 k hk; omega)
  refine WL.nil ?_
  refine hK4 _ _ ?_; try clear hK4 K4
  refine CW.ret ?_
  refine ⟨_, _, rfl, hB9.mem, rfl, ⟨_, _, rfl, Own.sl (xs := c.parents) (by simpa using hO6) digC_length (by decide), Own.sl (xs := c.ops) (by simpa using hO11) opC_length (by decide), hau, hno⟩, hE9⟩
end Go.Proofs.YtfbagecopapfhaaDoor
