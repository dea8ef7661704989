/- A store gone over: names, All and its closure, walked. No condition. -/
import Derived.Test.YtkbmlnkoejlgmaaDoorXc
import Derived.Test.YtkbmlnkoejlgmaaDoorMr
import Derived.Test.YtkbmlnkoejlgmaaDoorM2
import Derived.Test.YtkbmlnkoejlgmaaDoorRg
set_option linter.unusedSimpArgs false
set_option linter.unusedVariables false
namespace Go.Proofs.YtkbmlnkoejlgmaaDoor
open Go.RowKit Go.Fw Go.Pl Go.Sort
def namesL (l : List Ent) : List Dig := sortedD (l.map Ent.k)
theorem sortedD_perm {a b : List Dig} (h : a.Perm b) (hn : a.Nodup) : sortedD a = sortedD b :=
  up_eq (sortedD_up hn) (sortedD_up (h.nodup_iff.1 hn)) fun x => by rw [sortedD_mem, sortedD_mem]; exact h.mem_iff
theorem namesL_perm {a b : List Ent} (h : a.Perm b) (hn : Unlike b) : namesL a = namesL b := sortedD_perm (h.map _) ((h.map Ent.k).nodup_iff.2 hn)
theorem namesL_up {l : List Ent} (h : Unlike l) : Up (namesL l) := sortedD_up h
theorem namesL_mem {l : List Ent} {d : Dig} : d ∈ namesL l ↔ ∃ e ∈ l, e.k = d := by unfold namesL; rw [sortedD_mem, List.mem_map]
theorem namesL_length (l : List Ent) : (namesL l).length = l.length := by unfold namesL; rw [sortedD_length, List.length_map]

theorem names1_any (a b : Dig) (w : World) : Calls Tryd.prog 38 #[digV a, digV b] w (Ret fun v w' => v = .int .i64 (cfD a b) ∧ Ext w w') := by
  refine calls_of_CW 8 [4] [(0, digV a), (1, digV b)] Tryd.func38 rfl rfl rfl (by simp) args2 ?_
  have hE : Ext w w := Chg.refl
  refine CW.seq fun K1 hK1 => ?_
  refine CW.region ?_   -- region 0
  refine WL.box rfl rfl (by decide) fun g2 w1 hx1 hg2 hB2 => ?_   -- t2 := box 28 t0
  have hlt2 := hB2.lt; have hz1 := hx1.size
  have hM2 := hB2.mem; have hz1 := hx1.size; have hE := hE.thenExt hx1
  refine WL.box rfl rfl (by decide) fun g3 w2 hx2 hg3 hB3 => ?_   -- t3 := box 28 t1
  have hlt3 := hB3.lt; have hz2 := hx2.size
  have hM3 := hB3.mem; have hz2 := hx2.size; have hE := hE.thenExt hx2; have hB2 := hB2.ext hx2
  refine WL.val (Y.assign rfl) (by decide) ?_   -- t4 := assign c(0:i64)
  refine WL.nil ?_
  refine hK1 _ _ ?_; try clear hK1 K1
  refine CW.seq fun K2 hK2 => ?_
  refine CW.seq fun K3 hK3 => ?_
  refine CW.region ?_   -- region 1
  refine WL.val (Y.load Tryd.underlying28 rfl hB2.mem (sz_apiDigest _) rfl) (by decide) ?_   -- t5 := load 28 t2
  refine WL.val (Y.load Tryd.underlying28 rfl hB3.mem (sz_apiDigest _) rfl) (by decide) ?_   -- t6 := load 28 t3
  refine WL.call Tryd.func39 rfl rfl rfl (less_any _ _ _) (by simp) ?_; rintro v w3 ⟨rfl, hx3⟩; have hz3 := hx3.size; have hE := hE.thenExt hx3; have hB2 := hB2.ext hx3; have hB3 := hB3.ext hx3   -- t7 := call F39(t5, t6) : 28,28
  refine WL.nil ?_
  refine hK3 _ _ ?_; try clear hK3 K3
  first | refine CW.condD rfl (fun ht4 => ?_) (fun ht4 => ?_) | refine CW.condND rfl (fun ht4 => ?_) (fun ht4 => ?_) | refine CW.condN rfl (fun ht4 => ?_) (fun ht4 => ?_) | refine CW.cond rfl (fun ht4 => ?_) (fun ht4 => ?_)
  · -- then
    refine CW.seq fun K5 hK5 => ?_
    refine CW.region ?_   -- region 2
    refine WL.val (Y.assign rfl) (by decide) ?_   -- t4 := assign c(-1:i64)
    refine WL.nil ?_
    refine hK5 _ _ ?_; try clear hK5 K5
    refine CW.ret ⟨_, rfl, ?_⟩
    exact ⟨by rw [cfD, if_pos (by assumption)], hE⟩
  -- else
  refine CW.skip ?_
  refine hK2 _ _ ?_; try clear hK2 K2
  refine CW.seq fun K6 hK6 => ?_
  refine CW.region ?_   -- region 3
  refine WL.val (Y.assign rfl) (by decide) ?_   -- t4 := assign c(1:i64)
  refine WL.nil ?_
  refine hK6 _ _ ?_; try clear hK6 K6
  refine CW.ret ⟨_, rfl, ?_⟩
  exact ⟨by rw [cfD, if_neg (by simp [*])], hE⟩
set_option maxRecDepth 20000 in
theorem snames_any (g r : Nat) (l : List Ent) (w : World) (hT : StoreAt w g r l) : Calls Tryd.prog 28 #[.pointer (some ⟨g, 0, none⟩)] w (Ret fun v w' => Own w' TDg 32 v (flatD (namesL l)) ∧ (∀ k, v.ownBlock = some k → w.heap.size ≤ k) ∧ Ext w w') := by
  have hB0 := hT.blk
  have hfew := hT.few
  obtain ⟨cl, hmap, hold⟩ := hT.map
  have hMp := hmap
  have hlt0 := hT.lt
  refine calls_of_CW 23 [2] [(0, .pointer (some ⟨g, 0, none⟩))] Tryd.func28 rfl rfl rfl (by simp) args1 ?_
  have hE : Ext w w := Chg.refl
  refine CW.seq fun K1 hK1 => ?_
  refine CW.region ?_   -- region 0
  refine WL.val (Y.assign rfl) (by decide) ?_   -- t2 := assign c(nilslice)
  refine WL.nil ?_
  refine hK1 _ _ ?_; try clear hK1 K1
  refine CW.seq fun K2 hK2 => ?_
  refine CW.region ?_   -- region 1
  refine WL.val (Y.assign rfl) (by decide) ?_   -- t3 := assign c(nilslice)
  refine WL.nil ?_
  refine hK2 _ _ ?_; try clear hK2 K2
  refine CW.seq_to (X := Value × List Ent) (fun u => [(3, u.1)]) (fun u w0 => Own w0 TDg 32 u.1 (flatD (u.2.map Ent.k)) ∧ (∀ k, u.1.ownBlock = some k → w.heap.size ≤ k) ∧ Ext w w0 ∧ u.2.Perm l) ?_ ?_
  · skip
    refine CW.seq fun K4 hK4 => ?_
    refine CW.region ?_   -- region 2
    refine WL.val (Y.move rfl) (by decide) ?_   -- t5 := move t0
    refine WL.call Tryd.func22 rfl rfl rfl (made_any g r l _ hT) (by simp) ?_; rintro v w1 ⟨rfl, hx1⟩; have hz1 := hx1.size; have hE := hE.thenExt hx1; have hB0 := hB0.ext hx1; have hMp := hMp.ext hx1   -- t6 := call F22(t5) : 23
    refine WL.nil ?_
    refine hK4 _ _ ?_; try clear hK4 K4
    first | refine CW.condD rfl (fun ht5 => ?_) (fun ht5 => ?_) | refine CW.condND rfl (fun ht5 => ?_) (fun ht5 => ?_) | refine CW.condN rfl (fun ht5 => ?_) (fun ht5 => ?_) | refine CW.cond rfl (fun ht5 => ?_) (fun ht5 => ?_)
    · -- then
      refine CW.seq fun K6 hK6 => ?_
      refine CW.region ?_   -- region 3
      refine WL.val (Y.move rfl) (by decide) ?_   -- t7 := move t0
      refine WL.val (Y.nilCheck rfl) (by decide) ?_   -- t8 := nilCheck t7
      refine WL.val (Y.fieldAddr fo_storeStore0 rfl) (by decide) ?_   -- t9 := fieldAddr 58 t8 0
      refine WL.val (Y.load1 Tryd.underlying56 rfl hB0.mem.storeStore0 rfl) (by decide) ?_   -- t10 := load 56 t9
      refine WL.st (St.range Tryd.underlying56 rfl hMp hold hT.born) (by decide) fun v11 w2 hR2 => ?_   -- t11 := range 56 t10
      obtain ⟨r11, rfl, hr11, hG, hx2⟩ := hR2
      have hz2 := hx2.size
      have hE := hE.thenExt hx2
      have hltr := hG.lt
      refine WL.nil ?_
      refine hK6 _ _ ?_; try clear hK6 K6
      refine CW.block ?_   -- block 0
      refine CW.loop (X := Value × List Ent) (fun x => [(3, x.1), (11, .pointer (some ⟨r11, 0, none⟩))]) (fun x w0 => Own w0 TDg 32 x.1 (flatD (x.2.map Ent.k)) ∧ (∀ k, x.1.ownBlock = some k → w2.heap.size ≤ k) ∧ Ext w w0 ∧ w2.heap.size ≤ w0.heap.size ∧ Going w0 r11 r Ent.me l cl x.2) (fun x => l.length - x.2.length) (.slice none 0 0, []) (by repeat (first | exact Fr.le.nil | refine Fr.le.cons rfl ?_)) ⟨Own.nil, (fun k h => by simp [Value.ownBlock] at h), hE, Nat.le_refl _, hG⟩ ?_
      intro x w3 hl3
      obtain ⟨u, vs⟩ := x
      dsimp only at hl3 ⊢
      obtain ⟨hO, hfu, hE, hz3, hG⟩ := hl3
      obtain ⟨B, mb, cb, rfl⟩ := hO.lens
      have hltg := hG.lt
      have hB0 := hT.blk.ext hE
      have hMp := hmap.ext hE
      refine CW.seq fun K7 hK7 => ?_
      refine CW.region ?_   -- region 4
      refine WL.st (St.next rfl hG) (by decide) fun v12 w4 hR4 => ?_   -- t12 := next t11 false
      obtain ⟨bt, rest, rfl, hc4, hcase⟩ := hR4
      have hz4 := hc4.size
      have hE := hE.step hc4 (fun k h => by omega)
      have hO := hO.chg hc4 (fun k hk h => by have := hfu k hk; omega)
      have hB0 := hB0.chg hc4 (fun h => by omega)
      have hMp := hMp.chg hc4 (fun h => by omega)
      refine WL.val (Y.extractT rfl) (by decide) ?_   -- t13 := extract t12 0
      refine WL.nil ?_
      refine hK7 _ _ ?_; try clear hK7 K7
      refine CW.seq fun K8 hK8 => ?_
      first | refine CW.condD rfl (fun ht9 => ?_) (fun ht9 => ?_) | refine CW.condND rfl (fun ht9 => ?_) (fun ht9 => ?_) | refine CW.condN rfl (fun ht9 => ?_) (fun ht9 => ?_) | refine CW.cond rfl (fun ht9 => ?_) (fun ht9 => ?_)
      · -- then
        refine CW.skip ?_
        refine hK8 _ _ ?_; try clear hK8 K8
        obtain ⟨e, hel, hev, hG⟩ : ∃ e, e ∈ l ∧ e ∉ vs ∧ Going w4 r11 r Ent.me l cl (vs ++ [e]) := by
          rcases hcase with ⟨_, h⟩ | ⟨h, _⟩
          · exact h
          · rw [h] at ht9; cases ht9
        refine CW.block ?_   -- block 1
        refine CW.seq fun K10 hK10 => ?_
        refine CW.region ?_   -- region 5
        refine WL.val (Y.entry rfl hG) (by decide) ?_   -- t14 := entry t11
        refine WL.val (Y.extract rfl rfl) (by decide) ?_   -- t15 := extract t14 0
        refine as_apiDigest rfl (by simp) (by decide) fun g4 w5 hx5 hg4 hB4 => ?_   -- alloc 28; store 28 t4 t15
        have hlt4 := hB4.lt; have hz5 := hx5.size
        have hM4 := hB4.mem; have hz5 := hx5.size; have hE := hE.thenExt hx5; have hB0 := hB0.ext hx5; have hMp := hMp.ext hx5
        refine WL.nil ?_
        refine hK10 _ _ ?_; try clear hK10 K10
        refine CW.region ?_   -- region 6
        refine WL.val (Y.move rfl) (by decide) ?_   -- t16 := move t3
        refine WL.val (Y.load Tryd.underlying28 rfl hB4.mem (sz_apiDigest _) rfl) (by decide) ?_   -- t17 := load 28 t4
        refine WL.st (St.buildSlice rfl (bs1_dig _)) (by decide) fun v18 w6 hR6 => ?_   -- t18 := buildSlice 46 1 [(0,t17)]
        obtain ⟨g18, rfl, hg18, hB18, hx6⟩ := hR6
        have hz6 := hx6.size
        have hE := hE.thenExt hx6
        have hfl := hG.few
        rw [List.length_append, List.length_singleton] at hfl
        refine WL.st (St.append Tryd.underlying46 Tryd.underlying46 ai_dig rfl rfl (hO.ext (hx5.thenExt hx6)) (Src.one hB18 (digC_length _)) one_digC (by rw [flat_length digC_length, List.length_map]; omega)) (by decide) fun v19 w7 hR7 => ?_   -- t19 := call append(t16, t18) : 46,46
        obtain ⟨hO7, hc7, hf7⟩ := hR7
        have hz7 := hc7.size
        have hE := hE.step hc7 (fun k h => by have := hfu k h; omega)
        have hf7 : ∀ k, v19.ownBlock = some k → w2.heap.size ≤ k := by
          rcases hf7 with h | h
          · intro k hk; rw [h] at hk; exact hfu k hk
          · intro k hk; have := h k hk; omega
        have hG := (hG.ext (hx5.thenExt hx6)).chg hc7 (fun h => by have := hfu _ h; omega) (fun h => by have := hfu _ h; omega)
        refine WL.val (Y.assign rfl) (by decide) ?_   -- t3 := assign t19
        refine WL.nil ?_
        refine ⟨(v19, vs ++ [e]), by show l.length - (vs ++ [e]).length < l.length - vs.length; rw [List.length_append, List.length_singleton]; omega, (by repeat (first | exact Fr.le.nil | refine Fr.le.cons rfl ?_)), ?_, hf7, hE, by omega, hG⟩
        show Own _ _ _ _ (flatD ((vs ++ [e]).map Ent.k))
        simpa [flatD] using hO7
      -- else
      refine CW.exit ?_   -- exit 0
      rcases hcase with ⟨h, _⟩ | ⟨_, hall, hG⟩
      · rw [h] at ht9; cases ht9
      exact ⟨(.slice B mb cb, vs), (by repeat (first | exact Fr.le.nil | refine Fr.le.cons rfl ?_)), hO, (fun k hk => by have := hfu k hk; omega), hE, hG.perm hall⟩
    -- else
    refine CW.skip ?_
    exact absurd (show true = false by assumption) (by decide)
  rintro u w8 hj8
  obtain ⟨u, vs⟩ := u
  dsimp only at hj8 ⊢
  obtain ⟨hO, hfu, hE, hperm⟩ := hj8
  obtain ⟨B, mb, cb, rfl⟩ := hO.lens
  have hlenp := hperm.length_eq
  refine CW.seq fun K11 hK11 => ?_
  refine CW.region ?_   -- region 7
  refine WL.val (Y.move rfl) (by decide) ?_   -- t20 := move t3
  refine WL.call Tryd.func37 rfl rfl rfl (sort_gen cfD lt_cfD Tryd.func38 rfl rfl names1_any _ _ _ _ _ hO (by rw [List.length_map]; omega)) (by simp) ?_; rintro v21 w9 hR9   -- t21 := call F37(t20, F38) : 46,84
  obtain ⟨rfl, hO9, hc9⟩ := hR9
  have hz9 := hc9.size
  have hE := hE.step hc9 (fun k h => by have := hfu k h; omega)
  refine WL.nil ?_
  refine hK11 _ _ ?_; try clear hK11 K11
  refine CW.seq fun K12 hK12 => ?_
  refine CW.region ?_   -- region 8
  refine WL.val (Y.move rfl) (by decide) ?_   -- t22 := move t3
  refine WL.val (Y.assign rfl) (by decide) ?_   -- t2 := assign t22
  refine WL.nil ?_
  refine hK12 _ _ ?_; try clear hK12 K12
  refine CW.ret ⟨_, rfl, ?_⟩
  exact ⟨by rw [← namesL_perm hperm hT.keys]; exact hO9, hfu, hE⟩
end Go.Proofs.YtkbmlnkoejlgmaaDoor
