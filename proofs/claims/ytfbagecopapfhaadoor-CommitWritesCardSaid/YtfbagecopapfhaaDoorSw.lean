/- commit.ID, walked. No condition. -/
import Derived.Test.YtfbagecopapfhaaDoorSv
set_option linter.unusedSimpArgs false
set_option linter.unusedVariables false
namespace Go.Proofs.YtfbagecopapfhaaDoor
open Go.RowKit Go.Fw Go.Pl
abbrev TCm : TypeId := 25
def idD (c : ComD) : Dig := if mayI c = 0 then shaD (comB c) else Dig.zero

theorem id_any (u : Value) (c : ComD) (w : World) (hc : Com w u c) (hK : Mem w ⟨0, 0, none⟩ (wds keysL)) : Calls Tryd.prog 8 #[u] w (Ret fun v w' => v = .tuple #[digV (idD c), .int .i64 (mayI c)] ∧ Ext w w') := by
  have hc0 := hc
  obtain ⟨pv, ov, rfl, _⟩ := hc
  obtain ⟨id, hid, hzd, _⟩ := info_apiDigest
  refine calls_of_CWct 17 2 32 [3] [(0, .agg (comC pv c.author c.note ov).toArray)] Tryd.func8 rfl rfl rfl Tryd.underlying34 rfl (by kernel_rfl) (by simp) args1 ?_
  have hE : Ext w w := Chg.refl
  refine CW.seq fun K1 hK1 => ?_
  refine CW.region ?_   -- region 0
  refine WL.box rfl rfl (by decide) fun g1 w1 hx1 hg1 hB1 => ?_   -- t1 := box 25 t0
  have hlt1 := hB1.lt; have hz1 := hx1.size
  have hM1 := hB1.mem; have hz1 := hx1.size; have hE := hE.thenExt hx1
  refine WL.alloc (hid) (hzd) rfl (by decide) fun g2 w2 hx2 hg2 hB2 => ?_   -- t2 := alloc 34
  have hlt2 := hB2.lt; have hz2 := hx2.size
  have hM2 := hB2.mem; have hz2 := hx2.size; have hE := hE.thenExt hx2; have hB1 := hB1.ext hx2
  refine WL.val (Y.assign rfl) (by decide) ?_   -- t3 := assign c(0:i64)
  refine WL.nil ?_
  refine hK1 _ _ ?_; try clear hK1 K1
  refine CW.seq fun K2 hK2 => ?_
  refine CW.region ?_   -- region 1
  refine WL.val (Y.load Tryd.underlying25 rfl hB1.mem (sz_apiCommit _ _ _ _) rfl) (by decide) ?_   -- t7 := load 25 t1
  refine WL.call Tryd.func6 rfl rfl rfl (encode_any _ c _ (hc0.ext hE)) (by simp) ?_; rintro v8 w3 hR3   -- t8 := call F6(t7) : 25
  obtain ⟨u3, rfl, hA3⟩ := hR3
  have hx3 := hA3.nilExt
  have hz3 := hx3.size
  have hE := hE.thenExt hx3
  have hB1 := hB1.ext hx3
  have hB2 := hB2.ext hx3
  have hO3 := hA3.nilOwn.by
  have hlt3 := hA3.nilOwn.lt
  obtain ⟨A3, m3, c3, rfl⟩ := hO3.lens
  refine WL.val (Y.move rfl) (by decide) ?_   -- t6 := move t8
  refine WL.val (Y.extract rfl rfl) (by decide) ?_   -- t9 := extract t6 0
  refine WL.val (Y.extract rfl rfl) (by decide) ?_   -- t10 := extract t6 1
  refine WL.val (Y.assign rfl) (by decide) ?_   -- t4 := assign t9
  refine WL.val (Y.assign rfl) (by decide) ?_   -- t5 := assign t10
  refine WL.nil ?_
  refine hK2 _ _ ?_; try clear hK2 K2
  refine CW.seq fun K3 hK3 => ?_
  refine CW.seq fun K4 hK4 => ?_
  refine CW.region ?_   -- region 2
  refine WL.val (Y.move rfl) (by decide) ?_   -- t11 := move t5
  refine WL.val (Y.neq rfl rfl) (by decide) ?_   -- t12 := binOp neq 28 t11 c(0:i64) 28
  refine WL.nil ?_
  refine hK4 _ _ ?_; try clear hK4 K4
  first | refine CW.condD rfl (fun ht5 => ?_) (fun ht5 => ?_) | refine CW.condND rfl (fun ht5 => ?_) (fun ht5 => ?_) | refine CW.condN rfl (fun ht5 => ?_) (fun ht5 => ?_) | refine CW.cond rfl (fun ht5 => ?_) (fun ht5 => ?_)
  · -- then
    refine CW.seq fun K6 hK6 => ?_
    refine CW.region ?_   -- region 3
    refine WL.val (Y.build0 (build_apiDigest _)) (by decide) ?_   -- t13 := build 34 []
    refine WL.val (Y.move rfl) (by decide) ?_   -- t14 := move t5
    refine WL.store (g := g2) (pre := []) (old := digC Dig.zero) (post := []) (new := digC Dig.zero) rfl rfl rfl rfl (sz_apiDigest _) (by simpa using hB2) (by first | (simp only [List.length_cons, List.length_nil, List.length_map, List.length_replicate, V8.ws, digC_length]; done) | rfl | (simp [digC_length, opC_length]; done) | (simp only [digC_length, opC_length]; omega)) (one_digC) (fun w4 hc4 hB4_ => ?_)   -- _ := store 34 t2 t13
    have hz4 := hc4.size; have hE := hE.step hc4 (fun k h => by omega); have hB1 := hB1.chg hc4 (fun h => by omega)
    have hB2 : Blk w4 g2 TDi (digC Dig.zero) := by simpa using hB4_
    refine WL.val (Y.assign rfl) (by decide) ?_   -- t3 := assign t14
    refine WL.nil ?_
    refine hK6 _ _ ?_; try clear hK6 K6
    refine CW.ret ?_
    exact ⟨_, _, _, rfl, hB2.mem, digC_length _, rfl, by rw [idD, if_neg (by assumption)]; rfl, hE⟩
  -- else
  refine CW.skip ?_
  refine hK3 _ _ ?_; try clear hK3 K3
  refine CW.seq fun K7 hK7 => ?_
  refine CW.region ?_   -- region 4
  refine WL.val (Y.move rfl) (by decide) ?_   -- t15 := move t4
  refine WL.call Tryd.func15 rfl rfl rfl (sum_any _ (if mayI c = 0 then comB c else []) _ hO3 hlt3 (hK.ext hE) (by rw [if_pos (by omega)]; have := comB_len (c := c) (by omega); omega)) (by simp) ?_; rintro v w5 ⟨rfl, hx5⟩; have hz5 := hx5.size; have hE := hE.thenExt hx5; have hB1 := hB1.ext hx5; have hB2 := hB2.ext hx5   -- t16 := call F15(t15) : 27
  refine WL.store (g := g2) (pre := []) (old := digC Dig.zero) (post := []) (new := digC (shaD (if mayI c = 0 then comB c else []))) rfl rfl rfl rfl (sz_apiDigest _) (by simpa using hB2) (by first | (simp only [List.length_cons, List.length_nil, List.length_map, List.length_replicate, V8.ws, digC_length]; done) | rfl | (simp [digC_length, opC_length]; done) | (simp only [digC_length, opC_length]; omega)) (one_digC) (fun w6 hc6 hB6_ => ?_)   -- _ := store 34 t2 t16
  have hz6 := hc6.size; have hE := hE.step hc6 (fun k h => by omega); have hB1 := hB1.chg hc6 (fun h => by omega)
  have hm0 : mayI c = 0 := by omega
  have hB2 : Blk w6 g2 TDi (digC (idD c)) := by rw [idD, if_pos hm0]; rw [if_pos hm0] at hB6_; simpa using hB6_
  refine WL.val (Y.assign rfl) (by decide) ?_   -- t3 := assign c(0:i64)
  refine WL.nil ?_
  refine hK7 _ _ ?_; try clear hK7 K7
  refine CW.ret ?_
  exact ⟨_, _, _, rfl, hB2.mem, digC_length _, rfl, by rw [hm0], hE⟩
end Go.Proofs.YtfbagecopapfhaaDoor
