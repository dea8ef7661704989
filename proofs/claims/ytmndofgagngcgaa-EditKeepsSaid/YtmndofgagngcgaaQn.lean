/- Fugue's tree: made, Len, Full, Has, find, New, walked. No condition. -/
import Derived.Test.YtmndofgagngcgaaQm
import Derived.Test.YtmndofgagngcgaaG6
import Derived.Test.YtmndofgagngcgaaG4
set_option linter.unusedSimpArgs false
set_option linter.unusedVariables false
namespace Go.Proofs.Ytmndofgagngcgaa
open Go.RowKit Go.Fw Go.Fu
theorem build_rootN (w : World) : (Instr.build TN [(2, Value.bool true)].toArray).run Try.prog w = .ok (.agg (nodeC El.root (.slice none 0 0) (.slice none 0 0)).toArray) w := run_build w _ _ _ (by kernel_rfl)
theorem build_treeF (g0 rb ra : Nat) (w : World) : (Instr.build TF [(0, Value.pointer (some ⟨g0, 0, none⟩)), (1, .map (some rb)), (2, .map (some ra))].toArray).run Try.prog w = .ok (.agg (treeC g0 rb ra 0).toArray) w := run_build w _ _ _ (by kernel_rfl)
abbrev newN (gn : Nat) : List Nn := [⟨El.root, gn, .slice none 0 0, .slice none 0 0⟩]
theorem FtAt.new {w : World} {g rb ra gn : Nat} (hB : Blk w g TF (treeC gn rb ra 0)) (hN : Blk w gn TN (nodeC El.root (.slice none 0 0) (.slice none 0 0))) (h1 : MapAt w rb BE.me [] 0) (h2 : MapAt w ra AE.me [] 0) (hne : rb ≠ ra) : FtAt w g rb ra [] (newN gn) where
  blk := hB
  node i x hx := by
    cases i with
    | zero => simp at hx; subst hx; exact hN
    | succ i => simp at hx
  kids i x s hx := by
    cases i with
    | zero => simp at hx; subst hx; cases s <;> exact Own.nil
    | succ i => simp at hx
  inj i j x y hx hy _ := by
    have h1 := (List.getElem?_eq_some_iff.1 hx).1
    have h2 := (List.getElem?_eq_some_iff.1 hy).1
    simp at h1 h2; omega
  sep i j x y s t k hx hy e := by
    cases i with
    | zero => simp at hx; subst hx; cases s <;> simp [Nn.sv, Value.ownBlock] at e
    | succ i => simp at hx
  by_ := ⟨0, [], h1, (fun e he => nomatch he), List.nodup_nil, rfl, (fun e he => nomatch he), fun i x hi hx => by
    cases i with
    | zero => omega
    | succ i => simp at hx⟩
  added := ⟨0, [], h2, (fun e he => nomatch he), List.nodup_nil, List.nodup_nil, fun d => Iff.rfl⟩
  ne := hne

theorem fmade_any (g rb ra : Nat) (ad : List Dig) (ns : List Nn) (w : World) (hT : FtAt w g rb ra ad ns) : Calls Try.prog 37 #[.pointer (some ⟨g, 0, none⟩)] w (Ret fun v w' => v = .bool true ∧ Ext w w') := by
  have hB0 := hT.blk
  have hlo : ∀ k, Fp g rb ra ns k → k < w.heap.size := fun k hk => hT.lt hk
  have hg0 := hB0.lt
  refine calls_of_CW 12 [2] [(0, .pointer (some ⟨g, 0, none⟩))] Try.func37 rfl rfl rfl (by simp) args1 ?_
  have hE : Ext w w := Chg.refl
  refine CW.seq fun K1 hK1 => ?_
  refine CW.region ?_
  refine WL.val (Y.assign rfl) (by decide) ?_
  refine WL.nil ?_
  refine hK1 _ _ ?_; try clear hK1 K1
  refine CW.seq fun K2 hK2 => ?_
  refine CW.region ?_
  refine WL.val (Y.move rfl) (by decide) ?_
  refine WL.val (Y.neq_fugueTree rfl rfl) (by decide) ?_
  refine WL.val (Y.move rfl) (by decide) ?_
  refine WL.know (d := 5) (u := .bool true) rfl (by rfl) ?_
  refine WL.gval rfl rfl (Y.move rfl) (by decide) ?_
  refine WL.gval rfl rfl (Y.nilCheck rfl) (by decide) ?_
  refine WL.gval rfl rfl (Y.fieldAddr fo_fugueTree0 rfl) (by decide) ?_
  refine WL.gval rfl rfl (Y.load1 Try.underlying42 rfl hB0.mem.fugueTree0 rfl) (by decide) ?_
  refine WL.gval rfl rfl (Y.neq_fuguenode rfl rfl) (by decide) ?_
  refine WL.val (Y.pick rfl rfl) (by decide) ?_
  refine WL.val (Y.assign rfl) (by decide) ?_
  refine WL.nil ?_
  refine hK2 _ _ ?_; try clear hK2 K2
  refine CW.ret ⟨_, rfl, ?_⟩
  exact ⟨rfl, hE⟩
theorem fnew_any (w : World) : Calls Try.prog 26 #[] w (Ret fun v w' => ∃ g rb ra gn, v = .pointer (some ⟨g, 0, none⟩) ∧ w.heap.size ≤ g ∧ w.heap.size ≤ rb ∧ w.heap.size ≤ ra ∧ w.heap.size ≤ gn ∧ FtAt w' g rb ra [] (newN gn) ∧ Ext w w') := by
  refine calls_of_CW 7 [0] [] Try.func26 rfl rfl rfl (by simp) args0 ?_
  have hE : Ext w w := Chg.refl
  refine CW.seq fun K1 hK1 => ?_
  refine CW.region ?_
  refine WL.val (Y.assign rfl) (by decide) ?_
  refine WL.nil ?_
  refine hK1 _ _ ?_; try clear hK1 K1
  refine CW.seq fun K2 hK2 => ?_
  refine CW.region ?_
  refine WL.val (Y.build rfl (build_rootN _)) (by decide) ?_
  refine WL.box rfl rfl (by decide) fun g2 w1 hx1 hg2 hB2 => ?_
  have hlt2 := hB2.lt; have hz1 := hx1.size
  have hM2 := hB2.mem; have hz1 := hx1.size; have hE := hE.thenExt hx1
  refine WL.st (St.makeMap) (by decide) fun v3 w2 hR2 => ?_
  obtain ⟨rb, rfl, hrb, hMb, hx2⟩ := hR2
  have hz2 := hx2.size
  have hE := hE.thenExt hx2
  have hB2 := hB2.ext hx2
  have hlb := (hMb BE BE.me).lt
  refine WL.st (St.makeMap) (by decide) fun v4 w3 hR3 => ?_
  obtain ⟨ra, rfl, hra, hMa, hx3⟩ := hR3
  have hz3 := hx3.size
  have hE := hE.thenExt hx3
  have hB2 := hB2.ext hx3
  refine WL.val (Y.build rfl (build_treeF _ _ _ _)) (by decide) ?_
  refine WL.box rfl rfl (by decide) fun g6 w4 hx4 hg6 hB6 => ?_
  have hlt6 := hB6.lt; have hz4 := hx4.size
  have hM6 := hB6.mem; have hz4 := hx4.size; have hE := hE.thenExt hx4; have hB2 := hB2.ext hx4
  refine WL.val (Y.assign rfl) (by decide) ?_
  refine WL.nil ?_
  refine hK2 _ _ ?_; try clear hK2 K2
  refine CW.ret ⟨_, rfl, ?_⟩
  exact ⟨_, rb, ra, _, rfl, by omega, by omega, by omega, by omega, FtAt.new hB6 hB2 (((hMb BE BE.me).ext hx3).ext hx4) ((hMa AE AE.me).ext hx4) (by omega), hE⟩
theorem flen_any (g rb ra : Nat) (ad : List Dig) (ns : List Nn) (w : World) (hT : FtAt w g rb ra ad ns) : Calls Try.prog 20 #[.pointer (some ⟨g, 0, none⟩)] w (Ret fun v w' => v = .int .i64 (liveN ns : Int) ∧ Ext w w') := by
  have hB0 := hT.blk
  have hlo : ∀ k, Fp g rb ra ns k → k < w.heap.size := fun k hk => hT.lt hk
  have hg0 := hB0.lt
  refine calls_of_CW 10 [2] [(0, .pointer (some ⟨g, 0, none⟩))] Try.func20 rfl rfl rfl (by simp) args1 ?_
  have hE : Ext w w := Chg.refl
  refine CW.seq fun K1 hK1 => ?_
  refine CW.region ?_
  refine WL.val (Y.assign rfl) (by decide) ?_
  refine WL.nil ?_
  refine hK1 _ _ ?_; try clear hK1 K1
  refine CW.seq fun K2 hK2 => ?_
  refine CW.seq fun K3 hK3 => ?_
  refine CW.region ?_
  refine WL.val (Y.move rfl) (by decide) ?_
  refine WL.call Try.func37 rfl rfl rfl (fmade_any g rb ra ad ns _ hT) (by simp) ?_; rintro v w1 ⟨rfl, hx1⟩; have hz1 := hx1.size; have hE := hE.thenExt hx1; have hT := hT.ext hx1; have hB0 := hB0.ext hx1
  refine WL.val (Y.not rfl) (by decide) ?_
  refine WL.nil ?_
  refine hK3 _ _ ?_; try clear hK3 K3
  first | refine CW.condD rfl (fun ht4 => ?_) (fun ht4 => ?_) | refine CW.condND rfl (fun ht4 => ?_) (fun ht4 => ?_) | refine CW.condN rfl (fun ht4 => ?_) (fun ht4 => ?_) | refine CW.cond rfl (fun ht4 => ?_) (fun ht4 => ?_)
  · -- then
    refine CW.seq fun K5 hK5 => ?_
    refine CW.region ?_
    refine WL.val (Y.assign rfl) (by decide) ?_
    refine WL.nil ?_
    refine hK5 _ _ ?_; try clear hK5 K5
    refine CW.ret ⟨_, rfl, ?_⟩
    exact absurd (show true = false by assumption) (by decide)
  refine CW.skip ?_
  refine hK2 _ _ ?_; try clear hK2 K2
  refine CW.seq fun K6 hK6 => ?_
  refine CW.region ?_
  refine WL.val (Y.move rfl) (by decide) ?_
  refine WL.val (Y.nilCheck rfl) (by decide) ?_
  refine WL.val (Y.fieldAddr fo_fugueTree3 rfl) (by decide) ?_
  refine WL.val (Y.load1 Try.underlying3 rfl hB0.mem.fugueTree3 rfl) (by decide) ?_
  refine WL.val (Y.assign rfl) (by decide) ?_
  refine WL.nil ?_
  refine hK6 _ _ ?_; try clear hK6 K6
  refine CW.ret ⟨_, rfl, ?_⟩
  exact ⟨rfl, hE⟩
theorem ffind_any (g rb ra : Nat) (ad : List Dig) (ns : List Nn) (id : Dig) (r : RefD) (w : World) (hT : FtAt w g rb ra ad ns) (hG : Fu.Good (els ns)) : Calls Try.prog 39 #[.pointer (some ⟨g, 0, none⟩), digV id, refV r] w (Ret fun v w' => v = nodeP ns (atE (els ns) (res id r)) ∧ Ext w w') := by
  have hB0 := hT.blk
  have hlo : ∀ k, Fp g rb ra ns k → k < w.heap.size := fun k hk => hT.lt hk
  have hg0 := hB0.lt
  refine calls_of_CW 26 [6] [(0, .pointer (some ⟨g, 0, none⟩)), (1, digV id), (2, refV r)] Try.func39 rfl rfl rfl (by simp) args3 ?_
  have hE : Ext w w := Chg.refl
  refine CW.seq fun K1 hK1 => ?_
  refine CW.region ?_
  refine WL.box rfl rfl (by decide) fun g4 w1 hx1 hg4 hB4 => ?_
  have hlt4 := hB4.lt; have hz1 := hx1.size
  have hM4 := hB4.mem; have hz1 := hx1.size; have hE := hE.thenExt hx1; have hT := hT.ext hx1; have hB0 := hB0.ext hx1
  refine WL.box rfl rfl (by decide) fun g5 w2 hx2 hg5 hB5 => ?_
  have hlt5 := hB5.lt; have hz2 := hx2.size
  have hM5 := hB5.mem; have hz2 := hx2.size; have hE := hE.thenExt hx2; have hT := hT.ext hx2; have hB0 := hB0.ext hx2; have hB4 := hB4.ext hx2
  refine WL.val (Y.assign rfl) (by decide) ?_
  refine WL.nil ?_
  refine hK1 _ _ ?_; try clear hK1 K1
  refine CW.seq_to (X := Unit) (fun _ => [(0, .pointer (some ⟨g, 0, none⟩)), (4, .pointer (some ⟨g4, 0, none⟩)), (5, .pointer (some ⟨g5, 0, none⟩)), (6, .pointer none)]) (fun _ w0 => Ext w w0 ∧ Blk w0 g5 61 (refC (res id r)) ∧ Blk w0 g4 50 (digC id) ∧ FtAt w0 g rb ra ad ns ∧ w2.heap.size ≤ w0.heap.size) ?_ ?_
  · skip
    refine CW.seq fun K3 hK3 => ?_
    refine CW.region ?_
    refine WL.val (Y.fieldAddr fo_apiRef0 rfl) (by decide) ?_
    refine WL.val (Y.load1 Try.underlying4 rfl hB5.mem.ref0 rfl) (by decide) ?_
    refine WL.nil ?_
    refine hK3 _ _ ?_; try clear hK3 K3
    first | refine CW.condD rfl (fun ht4 => ?_) (fun ht4 => ?_) | refine CW.condND rfl (fun ht4 => ?_) (fun ht4 => ?_) | refine CW.condN rfl (fun ht4 => ?_) (fun ht4 => ?_) | refine CW.cond rfl (fun ht4 => ?_) (fun ht4 => ?_)
    · -- then
      refine CW.region ?_
      refine WL.val (Y.load Try.underlying50 rfl hB4.mem (sz_apiDigest _) rfl) (by decide) ?_
      refine WL.val (Y.fieldAddr fo_apiRef2 rfl) (by decide) ?_
      refine WL.val (Y.load1 Try.underlying3 rfl hB5.mem.ref2 rfl) (by decide) ?_
      refine WL.val (Y.build rfl (build_ref2 _ _ _)) (by decide) ?_
      refine WL.store (g := g5) (pre := []) (old := refC r) (post := []) (new := refC ⟨false, id, r.n⟩) rfl rfl rfl rfl (sz_apiRef _) (by simpa using hB5) (by simp only [refC_length]) (one_refC) (fun w3 hc3 hB3_ => ?_)
      have hz3 := hc3.size; have hE := hE.step hc3 (fun k h => by omega); have hT := hT.chg hc3 (fun k hk h => by have := hlo k hk; omega); have hB0 := hB0.chg hc3 (fun h => by omega); have hB4 := hB4.chg hc3 (fun h => by omega)
      have hB5 : Blk w3 g5 61 (refC (res id r)) := by
        rw [res, if_pos (by assumption)]; simpa using hB3_
      refine WL.nil ?_
      exact ⟨(), (by repeat (first | exact Fr.le.refl | exact Fr.le.nil | refine Fr.le.cons rfl ?_)), hE, hB5, hB4, hT, by omega⟩
 
    refine CW.skip ?_
    exact ⟨(), (by repeat (first | exact Fr.le.refl | exact Fr.le.nil | refine Fr.le.cons rfl ?_)), hE, (by rw [res, if_neg (by simp_all)]; exact hB5), hB4, hT, by omega⟩
  rintro u w4 hj4
  obtain ⟨hE, hB5, hB4, hT, hzj⟩ := hj4
  have hB0 := hT.blk
  refine CW.seq fun K5 hK5 => ?_
  refine CW.seq fun K6 hK6 => ?_
  refine CW.region ?_
  refine WL.val (Y.load Try.underlying61 rfl hB5.mem (sz_apiRef _) rfl) (by decide) ?_
  refine WL.val (Y.build0 (build_apiRef _)) (by decide) ?_
  refine WL.val (Y.eql_apiRef rfl rfl) (by decide) ?_
  refine WL.nil ?_
  refine hK6 _ _ ?_; try clear hK6 K6
  first | refine CW.condD rfl (fun ht7 => ?_) (fun ht7 => ?_) | refine CW.condND rfl (fun ht7 => ?_) (fun ht7 => ?_) | refine CW.condN rfl (fun ht7 => ?_) (fun ht7 => ?_) | refine CW.cond rfl (fun ht7 => ?_) (fun ht7 => ?_)
  · -- then
    refine CW.seq fun K8 hK8 => ?_
    refine CW.region ?_
    refine WL.val (Y.move rfl) (by decide) ?_
    refine WL.val (Y.nilCheck rfl) (by decide) ?_
    refine WL.val (Y.fieldAddr fo_fugueTree0 rfl) (by decide) ?_
    refine WL.val (Y.load1 Try.underlying42 rfl hB0.mem.fugueTree0 rfl) (by decide) ?_
    refine WL.val (Y.assign rfl) (by decide) ?_
    refine WL.nil ?_
    refine hK8 _ _ ?_; try clear hK8 K8
    refine CW.ret ⟨_, rfl, ?_⟩
    exact ⟨by rw [show res id r = RefD.zero by assumption, hG.at0]; rfl, hE⟩
  refine CW.skip ?_
  refine hK5 _ _ ?_; try clear hK5 K5
  refine CW.seq fun K9 hK9 => ?_
  refine CW.quiet (fun wq => Ext w4 wq) (by kernel_rfl) (by kernel_rfl) Chg.drew ?_
  refine QL.val (fun wq hq => Y.move rfl) (by decide) ?_
  refine QL.val (fun wq hq => Y.nilCheck rfl) (by decide) ?_
  refine QL.val (fun wq hq => Y.fieldAddr fo_fugueTree1 rfl) (by decide) ?_
  refine QL.val (fun wq hq => Y.load1 Try.underlying43 rfl (hB0.ext hq).mem.fugueTree1 rfl) (by decide) ?_
  refine QL.val (fun wq hq => Y.load Try.underlying61 rfl (hB5.ext hq).mem (sz_apiRef _) rfl) (by decide) ?_
  refine QL.val (fun wq hq => Y.lookB (hT.ext hq) hG rfl rfl) (by decide) ?_
  refine QL.val (fun wq hq => Y.assign rfl) (by decide) ?_
  refine QL.nil fun w5 hx5 => ?_
  have hz5 := hx5.size
  have hE := hE.thenExt hx5
  have hT := hT.ext hx5
  have hB0 := hB0.ext hx5
  have hB4 := hB4.ext hx5
  have hB5 := hB5.ext hx5
  refine hK9 _ _ ?_; try clear hK9 K9
  refine CW.ret ⟨_, rfl, ?_⟩
  exact ⟨by rw [byA, if_neg (by assumption)], hE⟩
end Go.Proofs.Ytmndofgagngcgaa
