/- digest.first, New, walked; what a Hash is as cells. No condition. -/
import Derived.Test.YtkbmlnkoejlgmaaDoorSp
set_option linter.unusedSimpArgs false
set_option linter.unusedVariables false
namespace Go.Proofs.YtkbmlnkoejlgmaaDoor
open Go.RowKit Go.Fw Go.Pl
abbrev TH : TypeId := 78
/-- A Hash's cells: it is made; its state, its block's bytes, how many came in. -/
def hashC (s : V8) (rest : List UInt8) (n : Nat) : List Value := .bool true :: (wds s.ws ++ (bytesC rest ++ [.int .i64 (n : Int)]))
theorem build_first (w : World) : (Instr.build TS [(0, Value.int .u32 1779033703), (1, Value.int .u32 3144134277), (2, Value.int .u32 1013904242), (3, Value.int .u32 2773480762), (4, Value.int .u32 1359893119), (5, Value.int .u32 2600822924), (6, Value.int .u32 528734635), (7, Value.int .u32 1541459225)].toArray).run Tryd.prog w = .ok (stV beginV) w := run_build w _ _ _ (by kernel_rfl)
theorem build_hash (w : World) : (Instr.build TH [(0, Value.bool true), (1, stV beginV)].toArray).run Tryd.prog w = .ok (.agg (hashC beginV (List.replicate 64 0) 0).toArray) w := run_build w _ _ _ (by kernel_rfl)

theorem first_any (w : World) : Calls Tryd.prog 35 #[] w (Ret fun v w' => v = stV beginV ∧ Ext w w') := by
  obtain ⟨i9, hi9, hz9, _⟩ := info_state
  refine calls_of_CWc 2 0 8 [] Tryd.func35 rfl rfl rfl Tryd.underlying74 rfl (by kernel_rfl) (by simp) args0 ?_
  have hE : Ext w w := Chg.refl
  refine CW.seq fun K1 hK1 => ?_
  refine CW.region ?_   -- region 0
  refine WL.alloc (hi9) (hz9) rfl (by decide) fun g0 w1 hx1 hg0 hB0 => ?_   -- t0 := alloc 74
  have hlt0 := hB0.lt; have hz1 := hx1.size
  have hM0 := hB0.mem; have hz1 := hx1.size; have hE := hE.thenExt hx1
  refine WL.nil ?_
  refine hK1 _ _ ?_; try clear hK1 K1
  refine CW.seq fun K2 hK2 => ?_
  refine CW.region ?_   -- region 1
  refine WL.val (Y.build rfl (build_first _)) (by decide) ?_   -- t1 := build 74 [(0,c(1779033703:u32)), (1,c(3144134277:u32)), (2,c(1013904242:u32)), (3,c(2773480762:u32)), (4,c(1359893119:u32)), (5,c(2600822924:u32)), (6,c(528734635:u32)), (7,c(1541459225:u32))]
  refine WL.store (g := g0) (pre := []) (old := wds (List.replicate 8 0)) (post := []) (new := wds beginV.ws) rfl rfl rfl rfl (by kernel_rfl) (by simpa using hB0) (by first | (simp only [List.length_cons, List.length_nil, List.length_map, List.length_replicate, V8.ws, digC_length]; done) | rfl | (simp [digC_length, opC_length]; done) | (simp only [digC_length, opC_length]; omega)) (wds_one) (fun w2 hc2 hB2_ => ?_)   -- _ := store 74 t0 t1
  have hz2 := hc2.size; have hE := hE.step hc2 (fun k h => by omega)
  have hB0 : Blk w2 g0 TS (wds beginV.ws) := by simpa using hB2_
  refine WL.nil ?_
  refine hK2 _ _ ?_; try clear hK2 K2
  refine CW.ret ?_
  exact ⟨_, _, rfl, hB0.mem, rfl, rfl, hE⟩
theorem new_any (w : World) : Calls Tryd.prog 24 #[] w (Ret fun v w' => ∃ g, v = .pointer (some ⟨g, 0, none⟩) ∧ w.heap.size ≤ g ∧ Blk w' g TH (hashC beginV (List.replicate 64 0) 0) ∧ Ext w w') := by
  refine calls_of_CW 4 [0] [] Tryd.func24 rfl rfl rfl (by simp) args0 ?_
  have hE : Ext w w := Chg.refl
  refine CW.seq fun K1 hK1 => ?_
  refine CW.region ?_   -- region 0
  refine WL.val (Y.assign rfl) (by decide) ?_   -- t0 := assign c(['Go.Value.pointer', 'none'])
  refine WL.nil ?_
  refine hK1 _ _ ?_; try clear hK1 K1
  refine CW.seq fun K2 hK2 => ?_
  refine CW.region ?_   -- region 1
  refine WL.call Tryd.func35 rfl rfl rfl (first_any _) (by simp) ?_; rintro v w1 ⟨rfl, hx1⟩; have hz1 := hx1.size; have hE := hE.thenExt hx1   -- t1 := call F35() : 
  refine WL.val (Y.build rfl (build_hash _)) (by decide) ?_   -- t2 := build 78 [(0,c(true)), (1,t1)]
  refine WL.box rfl rfl (by decide) fun g3 w2 hx2 hg3 hB3 => ?_   -- t3 := box 78 t2
  have hlt3 := hB3.lt; have hz2 := hx2.size
  have hM3 := hB3.mem; have hz2 := hx2.size; have hE := hE.thenExt hx2
  refine WL.val (Y.assign rfl) (by decide) ?_   -- t0 := assign t3
  refine WL.nil ?_
  refine hK2 _ _ ?_; try clear hK2 K2
  refine CW.ret ⟨_, rfl, ?_⟩
  exact ⟨g3, rfl, by omega, hB3, hE⟩
end Go.Proofs.YtkbmlnkoejlgmaaDoor
