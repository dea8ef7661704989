/- Several texts as one: Xg, Xh, Xk, Xl. -/
import Derived.Test.YtoncdfpohdchgaaDoorX1
import Derived.Test.YtoncdfpohdchgaaDoorMr
import Derived.Test.YtoncdfpohdchgaaDoorM2
import Derived.Test.YtoncdfpohdchgaaDoorRg
set_option linter.unusedSimpArgs false
set_option linter.unusedVariables false
/- A store gone over: names, All and its closure, walked. No condition. -/
namespace Go.Proofs.YtoncdfpohdchgaaDoor
open Go.RowKit Go.Fw Go.Pl Go.Sort
def namesL (l : List Ent) : List Dig := sortedD (l.map Ent.k)
theorem sortedD_perm {a b : List Dig} (h : a.Perm b) (hn : a.Nodup) : sortedD a = sortedD b :=
  up_eq (sortedD_up hn) (sortedD_up (h.nodup_iff.1 hn)) fun x => by rw [sortedD_mem, sortedD_mem]; exact h.mem_iff
theorem namesL_perm {a b : List Ent} (h : a.Perm b) (hn : Unlike b) : namesL a = namesL b := sortedD_perm (h.map _) ((h.map Ent.k).nodup_iff.2 hn)
theorem namesL_up {l : List Ent} (h : Unlike l) : Up (namesL l) := sortedD_up h
theorem namesL_mem {l : List Ent} {d : Dig} : d ∈ namesL l ↔ ∃ e ∈ l, e.k = d := by unfold namesL; rw [sortedD_mem, List.mem_map]
theorem namesL_length (l : List Ent) : (namesL l).length = l.length := by unfold namesL; rw [sortedD_length, List.length_map]

theorem names1_any (a b : Dig) (w : World) : Calls Tryd.prog 58 #[digV a, digV b] w (Ret fun v w' => v = .int .i64 (cfD a b) ∧ Ext w w') := by
  refine calls_of_CW 8 [4] [(0, digV a), (1, digV b)] Tryd.func58 rfl rfl rfl (by simp) args2 ?_
  have hE : Ext w w := Chg.refl
  refine CW.seq fun K1 hK1 => ?_
  refine CW.region ?_   -- region 0
  refine WL.box rfl rfl (by decide) fun g2 w1 hx1 hg2 hB2 => ?_   -- t2 := box 31 t0
  have hlt2 := hB2.lt; have hz1 := hx1.size
  have hM2 := hB2.mem; have hz1 := hx1.size; have hE := hE.thenExt hx1
  refine WL.box rfl rfl (by decide) fun g3 w2 hx2 hg3 hB3 => ?_   -- t3 := box 31 t1
  have hlt3 := hB3.lt; have hz2 := hx2.size
  have hM3 := hB3.mem; have hz2 := hx2.size; have hE := hE.thenExt hx2; have hB2 := hB2.ext hx2
  refine WL.val (Y.assign rfl) (by decide) ?_   -- t4 := assign c(0:i64)
  refine WL.nil ?_
  refine hK1 _ _ ?_; try clear hK1 K1
  refine CW.seq fun K2 hK2 => ?_
  refine CW.seq fun K3 hK3 => ?_
  refine CW.region ?_   -- region 1
  refine WL.val (Y.load Tryd.underlying31 rfl hB2.mem (sz_apiDigest _) rfl) (by decide) ?_   -- t5 := load 31 t2
  refine WL.val (Y.load Tryd.underlying31 rfl hB3.mem (sz_apiDigest _) rfl) (by decide) ?_   -- t6 := load 31 t3
  refine WL.call Tryd.func49 rfl rfl rfl (less_any _ _ _) (by simp) ?_; rintro v w3 ⟨rfl, hx3⟩; have hz3 := hx3.size; have hE := hE.thenExt hx3; have hB2 := hB2.ext hx3; have hB3 := hB3.ext hx3   -- t7 := call F49(t5, t6) : 31,31
  refine WL.nil ?_
  refine hK3 _ _ ?_; try clear hK3 K3
  first | refine CW.condD rfl (fun ht4 => ?_) (fun ht4 => ?_) | refine CW.condND rfl (fun ht4 => ?_) (fun ht4 => ?_) | refine CW.condN rfl (fun ht4 => ?_) (fun ht4 => ?_) | refine CW.cond rfl (fun ht4 => ?_) (fun ht4 => ?_)
  · -- then
    refine CW.seq fun K5 hK5 => ?_
    refine CW.region ?_   -- region 2
    refine WL.val (Y.assign rfl) (by decide) ?_   -- t4 := assign c(-1:i64)
    refine WL.nil ?_
    refine hK5 _ _ ?_; try clear hK5 K5
    refine CW.ret ⟨_, rfl, ?_⟩
    exact ⟨by rw [cfD, if_pos (by assumption)], hE⟩
  -- else
  refine CW.skip ?_
  refine hK2 _ _ ?_; try clear hK2 K2
  refine CW.seq fun K6 hK6 => ?_
  refine CW.region ?_   -- region 3
  refine WL.val (Y.assign rfl) (by decide) ?_   -- t4 := assign c(1:i64)
  refine WL.nil ?_
  refine hK6 _ _ ?_; try clear hK6 K6
  refine CW.ret ⟨_, rfl, ?_⟩
  exact ⟨by rw [cfD, if_neg (by simp [*])], hE⟩
set_option maxRecDepth 20000 in
theorem snames_any (g r : Nat) (l : List Ent) (w : World) (hT : StoreAt w g r l) : Calls Tryd.prog 44 #[.pointer (some ⟨g, 0, none⟩)] w (Ret fun v w' => Own w' TDg 32 v (flatD (namesL l)) ∧ (∀ k, v.ownBlock = some k → w.heap.size ≤ k) ∧ Ext w w') := by
  have hB0 := hT.blk
  have hfew := hT.few
  obtain ⟨cl, hmap, hold⟩ := hT.map
  have hMp := hmap
  have hlt0 := hT.lt
  refine calls_of_CW 23 [2] [(0, .pointer (some ⟨g, 0, none⟩))] Tryd.func44 rfl rfl rfl (by simp) args1 ?_
  have hE : Ext w w := Chg.refl
  refine CW.seq fun K1 hK1 => ?_
  refine CW.region ?_   -- region 0
  refine WL.val (Y.assign rfl) (by decide) ?_   -- t2 := assign c(nilslice)
  refine WL.nil ?_
  refine hK1 _ _ ?_; try clear hK1 K1
  refine CW.seq fun K2 hK2 => ?_
  refine CW.region ?_   -- region 1
  refine WL.val (Y.assign rfl) (by decide) ?_   -- t3 := assign c(nilslice)
  refine WL.nil ?_
  refine hK2 _ _ ?_; try clear hK2 K2
  refine CW.seq_to (X := Value × List Ent) (fun u => [(3, u.1)]) (fun u w0 => Own w0 TDg 32 u.1 (flatD (u.2.map Ent.k)) ∧ (∀ k, u.1.ownBlock = some k → w.heap.size ≤ k) ∧ Ext w w0 ∧ u.2.Perm l) ?_ ?_
  · skip
    refine CW.seq fun K4 hK4 => ?_
    refine CW.region ?_   -- region 2
    refine WL.val (Y.move rfl) (by decide) ?_   -- t5 := move t0
    refine WL.call Tryd.func42 rfl rfl rfl (made_any g r l _ hT) (by simp) ?_; rintro v w1 ⟨rfl, hx1⟩; have hz1 := hx1.size; have hE := hE.thenExt hx1; have hB0 := hB0.ext hx1; have hMp := hMp.ext hx1   -- t6 := call F42(t5) : 49
    refine WL.nil ?_
    refine hK4 _ _ ?_; try clear hK4 K4
    first | refine CW.condD rfl (fun ht5 => ?_) (fun ht5 => ?_) | refine CW.condND rfl (fun ht5 => ?_) (fun ht5 => ?_) | refine CW.condN rfl (fun ht5 => ?_) (fun ht5 => ?_) | refine CW.cond rfl (fun ht5 => ?_) (fun ht5 => ?_)
    · -- then
      refine CW.seq fun K6 hK6 => ?_
      refine CW.region ?_   -- region 3
      refine WL.val (Y.move rfl) (by decide) ?_   -- t7 := move t0
      refine WL.val (Y.nilCheck rfl) (by decide) ?_   -- t8 := nilCheck t7
      refine WL.val (Y.fieldAddr fo_storeStore0 rfl) (by decide) ?_   -- t9 := fieldAddr 85 t8 0
      refine WL.val (Y.load1 Tryd.underlying83 rfl hB0.mem.storeStore0 rfl) (by decide) ?_   -- t10 := load 83 t9
      refine WL.st (St.range Tryd.underlying83 rfl hMp hold hT.born) (by decide) fun v11 w2 hR2 => ?_   -- t11 := range 83 t10
      obtain ⟨r11, rfl, hr11, hG, hx2⟩ := hR2
      have hz2 := hx2.size
      have hE := hE.thenExt hx2
      have hltr := hG.lt
      refine WL.nil ?_
      refine hK6 _ _ ?_; try clear hK6 K6
      refine CW.block ?_   -- block 0
      refine CW.loop (X := Value × List Ent) (fun x => [(3, x.1), (11, .pointer (some ⟨r11, 0, none⟩))]) (fun x w0 => Own w0 TDg 32 x.1 (flatD (x.2.map Ent.k)) ∧ (∀ k, x.1.ownBlock = some k → w2.heap.size ≤ k) ∧ Ext w w0 ∧ w2.heap.size ≤ w0.heap.size ∧ Going w0 r11 r Ent.me l cl x.2) (fun x => l.length - x.2.length) (.slice none 0 0, []) (by repeat (first | exact Fr.le.nil | refine Fr.le.cons rfl ?_)) ⟨Own.nil, (fun k h => by simp [Value.ownBlock] at h), hE, Nat.le_refl _, hG⟩ ?_
      intro x w3 hl3
      obtain ⟨u, vs⟩ := x
      dsimp only at hl3 ⊢
      obtain ⟨hO, hfu, hE, hz3, hG⟩ := hl3
      obtain ⟨B, mb, cb, rfl⟩ := hO.lens
      have hltg := hG.lt
      have hB0 := hT.blk.ext hE
      have hMp := hmap.ext hE
      refine CW.seq fun K7 hK7 => ?_
      refine CW.region ?_   -- region 4
      refine WL.st (St.next rfl hG) (by decide) fun v12 w4 hR4 => ?_   -- t12 := next t11 false
      obtain ⟨bt, rest, rfl, hc4, hcase⟩ := hR4
      have hz4 := hc4.size
      have hE := hE.step hc4 (fun k h => by omega)
      have hO := hO.chg hc4 (fun k hk h => by have := hfu k hk; omega)
      have hB0 := hB0.chg hc4 (fun h => by omega)
      have hMp := hMp.chg hc4 (fun h => by omega)
      refine WL.val (Y.extractT rfl) (by decide) ?_   -- t13 := extract t12 0
      refine WL.nil ?_
      refine hK7 _ _ ?_; try clear hK7 K7
      refine CW.seq fun K8 hK8 => ?_
      first | refine CW.condD rfl (fun ht9 => ?_) (fun ht9 => ?_) | refine CW.condND rfl (fun ht9 => ?_) (fun ht9 => ?_) | refine CW.condN rfl (fun ht9 => ?_) (fun ht9 => ?_) | refine CW.cond rfl (fun ht9 => ?_) (fun ht9 => ?_)
      · -- then
        refine CW.skip ?_
        refine hK8 _ _ ?_; try clear hK8 K8
        obtain ⟨e, hel, hev, hG⟩ : ∃ e, e ∈ l ∧ e ∉ vs ∧ Going w4 r11 r Ent.me l cl (vs ++ [e]) := by
          rcases hcase with ⟨_, h⟩ | ⟨h, _⟩
          · exact h
          · rw [h] at ht9; cases ht9
        refine CW.block ?_   -- block 1
        refine CW.seq fun K10 hK10 => ?_
        refine CW.region ?_   -- region 5
        refine WL.val (Y.entry rfl hG) (by decide) ?_   -- t14 := entry t11
        refine WL.val (Y.extract rfl rfl) (by decide) ?_   -- t15 := extract t14 0
        refine as_apiDigest rfl (by simp) (by decide) fun g4 w5 hx5 hg4 hB4 => ?_   -- alloc 31; store 31 t4 t15
        have hlt4 := hB4.lt; have hz5 := hx5.size
        have hM4 := hB4.mem; have hz5 := hx5.size; have hE := hE.thenExt hx5; have hB0 := hB0.ext hx5; have hMp := hMp.ext hx5
        refine WL.nil ?_
        refine hK10 _ _ ?_; try clear hK10 K10
        refine CW.region ?_   -- region 6
        refine WL.val (Y.move rfl) (by decide) ?_   -- t16 := move t3
        refine WL.val (Y.load Tryd.underlying31 rfl hB4.mem (sz_apiDigest _) rfl) (by decide) ?_   -- t17 := load 31 t4
        refine WL.st (St.buildSlice rfl (bs1_dig _)) (by decide) fun v18 w6 hR6 => ?_   -- t18 := buildSlice 29 1 [(0,t17)]
        obtain ⟨g18, rfl, hg18, hB18, hx6⟩ := hR6
        have hz6 := hx6.size
        have hE := hE.thenExt hx6
        have hfl := hG.few
        rw [List.length_append, List.length_singleton] at hfl
        refine WL.st (St.append Tryd.underlying29 Tryd.underlying29 ai_dig rfl rfl (hO.ext (hx5.thenExt hx6)) (Src.one hB18 (digC_length _)) one_digC (by rw [flat_length digC_length, List.length_map]; omega)) (by decide) fun v19 w7 hR7 => ?_   -- t19 := call append(t16, t18) : 29,29
        obtain ⟨hO7, hc7, hf7⟩ := hR7
        have hz7 := hc7.size
        have hE := hE.step hc7 (fun k h => by have := hfu k h; omega)
        have hf7 : ∀ k, v19.ownBlock = some k → w2.heap.size ≤ k := by
          rcases hf7 with h | h
          · intro k hk; rw [h] at hk; exact hfu k hk
          · intro k hk; have := h k hk; omega
        have hG := (hG.ext (hx5.thenExt hx6)).chg hc7 (fun h => by have := hfu _ h; omega) (fun h => by have := hfu _ h; omega)
        refine WL.val (Y.assign rfl) (by decide) ?_   -- t3 := assign t19
        refine WL.nil ?_
        refine ⟨(v19, vs ++ [e]), by show l.length - (vs ++ [e]).length < l.length - vs.length; rw [List.length_append, List.length_singleton]; omega, (by repeat (first | exact Fr.le.nil | refine Fr.le.cons rfl ?_)), ?_, hf7, hE, by omega, hG⟩
        show Own _ _ _ _ (flatD ((vs ++ [e]).map Ent.k))
        simpa [flatD] using hO7
      -- else
      refine CW.exit ?_   -- exit 0
      rcases hcase with ⟨h, _⟩ | ⟨_, hall, hG⟩
      · rw [h] at ht9; cases ht9
      exact ⟨(.slice B mb cb, vs), (by repeat (first | exact Fr.le.nil | refine Fr.le.cons rfl ?_)), hO, (fun k hk => by have := hfu k hk; omega), hE, hG.perm hall⟩
    -- else
    refine CW.skip ?_
    exact absurd (show true = false by assumption) (by decide)
  rintro u w8 hj8
  obtain ⟨u, vs⟩ := u
  dsimp only at hj8 ⊢
  obtain ⟨hO, hfu, hE, hperm⟩ := hj8
  obtain ⟨B, mb, cb, rfl⟩ := hO.lens
  have hlenp := hperm.length_eq
  refine CW.seq fun K11 hK11 => ?_
  refine CW.region ?_   -- region 7
  refine WL.val (Y.move rfl) (by decide) ?_   -- t20 := move t3
  refine WL.call Tryd.func57 rfl rfl rfl (sort_gen cfD lt_cfD Tryd.func58 rfl rfl names1_any _ _ _ _ _ hO (by rw [List.length_map]; omega)) (by simp) ?_; rintro v21 w9 hR9   -- t21 := call F57(t20, F58) : 29,114
  obtain ⟨rfl, hO9, hc9⟩ := hR9
  have hz9 := hc9.size
  have hE := hE.step hc9 (fun k h => by have := hfu k h; omega)
  refine WL.nil ?_
  refine hK11 _ _ ?_; try clear hK11 K11
  refine CW.seq fun K12 hK12 => ?_
  refine CW.region ?_   -- region 8
  refine WL.val (Y.move rfl) (by decide) ?_   -- t22 := move t3
  refine WL.val (Y.assign rfl) (by decide) ?_   -- t2 := assign t22
  refine WL.nil ?_
  refine hK12 _ _ ?_; try clear hK12 K12
  refine CW.ret ⟨_, rfl, ?_⟩
  exact ⟨by rw [← namesL_perm hperm hT.keys]; exact hO9, hfu, hE⟩
end Go.Proofs.YtoncdfpohdchgaaDoor

/- A store gone over: All and its closure, walked: what the iterator promises. No condition. -/
namespace Go.Proofs.YtoncdfpohdchgaaDoor
open Go.RowKit Go.Fw Go.Pl Go.Sort
abbrev TU8 : TypeId := 5
abbrev TSl8 : TypeId := 33
theorem ai_sl8 : AppInfo Tryd.prog TSl8 1 24 := by
  have h : (Tryd.prog.info? TSl8).map (fun i => (i.zero, i.size, i.bytes)) = some (some (.slice none 0 0), 1, 24) := by kernel_rfl
  cases hi : Tryd.prog.info? TSl8 with
  | none => simp [hi] at h
  | some i => simp [hi] at h; exact ⟨i, .slice none 0 0, hi, h.1, h.2.1, by simp [Value.cells], h.2.2, by decide, by decide⟩
theorem nilGet {α : Type} {j : Nat} {v : α} (h : ([] : List α)[j]? = some v) : False := by simp at h
theorem nilMem {α : Type} {v : α} (h : v ∈ ([] : List α)) : False := by simp at h
/-- What a walk over a store finds out ahead of the first round. -/
structure SA where
  lo : Nat
  hi : Nat
  bs : List Value
def apartV (bs : List Value) : Prop := ∀ (i j : Nat) (u v : Value) (k : Nat), bs[i]? = some u → bs[j]? = some v → u.ownBlock = some k → v.ownBlock = some k → i = j
theorem apartV.app {bs : List Value} {v : Value} {m : Nat} (h : apartV bs) (h1 : ∀ u ∈ bs, ∀ k, u.ownBlock = some k → k < m) (h2 : ∀ k, v.ownBlock = some k → m ≤ k) : apartV (bs ++ [v]) := by
  intro i j a b k hi hj ha hb
  have hil := (List.getElem?_eq_some_iff.1 hi).1
  have hjl := (List.getElem?_eq_some_iff.1 hj).1
  simp only [List.length_append, List.length_singleton] at hil hjl
  by_cases ei : i < bs.length <;> by_cases ej : j < bs.length
  · rw [List.getElem?_append_left ei] at hi
    rw [List.getElem?_append_left ej] at hj
    exact h i j a b k hi hj ha hb
  · rw [List.getElem?_append_left ei] at hi
    rw [List.getElem?_append_right (by omega), show j - bs.length = 0 by omega] at hj
    simp at hj; subst hj
    have := h1 a (List.mem_of_getElem? hi) k ha
    have := h2 k hb
    omega
  · rw [List.getElem?_append_right (by omega), show i - bs.length = 0 by omega] at hi
    simp at hi; subst hi
    rw [List.getElem?_append_left ej] at hj
    have := h1 b (List.mem_of_getElem? hj) k hb
    have := h2 k ha
    omega
  · omega
abbrev allXs (l : List Ent) (s : SA) : List (Dig × Value) := (namesL l).zip s.bs
abbrev allEnc (x : Dig × Value) : List Value := [digV x.1, x.2]
abbrev allKeep (s : SA) (i k : Nat) : Prop := s.lo ≤ k ∧ k < s.hi ∧ ∀ j v, j ≤ i → s.bs[j]? = some v → v.ownBlock ≠ some k
structure AllSetup (l : List Ent) (w1 : World) (s : SA) (V : World) : Prop where
  lo : w1.heap.size ≤ s.lo
  hi : s.hi ≤ V.heap.size
  len : s.bs.length = (namesL l).length
  own : ∀ v ∈ s.bs, ∀ k, v.ownBlock = some k → s.lo ≤ k ∧ k < s.hi
  apart : apartV s.bs
abbrev allAt (l : List Ent) (s : SA) (i : Nat) (V : World) : Prop := ∀ x, (allXs l s)[i]? = some x → Own V TU8 1 x.2 (bytesC (getB l x.1))
abbrev encV (v : Value) : List Value := [v]
theorem encV_length (v : Value) : (encV v).length = 1 := rfl
abbrev flatV (bs : List Value) : List Value := (bs.map encV).flatten
theorem bs1_sl8 (A : Option Addr) (m c : Nat) (w : World) : (Instr.buildSlice 88 1 [(0, .slice A m c)].toArray).run Tryd.prog w = .ok (.slice (some ⟨w.heap.size, 0, none⟩) 1 1) (w.alloc (.cells [.slice A m c].toArray TSl8)) := by
  obtain ⟨i, z, hi, hz, hk, _⟩ := ai_sl8
  exact run_bs1 Tryd.underlying88 hi hz (by omega) (by omega) rfl (by rw [hk]; rfl) w

theorem sall_any (u : Addr) (w : World) : Calls Tryd.prog 24 #[.pointer (some u)] w (Ret fun v w' => ∃ b, v = .func (.func 43) #[] #[.pointer (some ⟨b, 0, none⟩)] ∧ w.heap.size ≤ b ∧ Blk w' b 49 [.pointer (some u)] ∧ Ext w w') := by
  refine calls_of_CW 4 [2] [(0, .pointer (some u))] Tryd.func24 rfl rfl rfl (by simp) args1 ?_
  have hE : Ext w w := Chg.refl
  refine CW.seq fun K1 hK1 => ?_
  refine CW.region ?_   -- region 0
  refine WL.box rfl rfl (by decide) fun g1 w1 hx1 hg1 hB1 => ?_   -- t1 := box 49 t0
  have hlt1 := hB1.lt; have hz1 := hx1.size
  have hM1 := hB1.mem; have hz1 := hx1.size; have hE := hE.thenExt hx1
  refine WL.val (Y.assign rfl) (by decide) ?_   -- t2 := assign c(Value.nilFunc)
  refine WL.nil ?_
  refine hK1 _ _ ?_; try clear hK1 K1
  refine CW.seq fun K2 hK2 => ?_
  refine CW.region ?_   -- region 1
  refine WL.val (Y.makeFunc rfl) (by decide) ?_   -- t3 := makeFunc ['Go.Fn.func', '43'] [] [t1]
  refine WL.val (Y.assign rfl) (by decide) ?_   -- t2 := assign t3
  refine WL.nil ?_
  refine hK2 _ _ ?_; try clear hK2 K2
  refine CW.ret ⟨_, rfl, ?_⟩
  exact ⟨g1, rfl, hg1, hB1, hE⟩
set_option maxHeartbeats 1000000 in
theorem sall1_any (g r b : Nat) (l : List Ent) (w_ : World) (hT_ : StoreAt w_ g r l) (hB_ : Blk w_ b 49 [.pointer (some ⟨g, 0, none⟩)]) : IterC Tryd.prog 43 [.pointer (some ⟨b, 0, none⟩)] w_ (AllSetup l) (allXs l) allEnc (fun _ => False) allKeep (allAt l) (fun _ => True) := by
  intro ln w J Jx hx0 hS hJ hJx hR
  have hT := hT_.ext hx0
  have hB0 := hB_.ext hx0
  have hfew := hT.few
  obtain ⟨id, hid, hzd, _⟩ := info_apiDigest
  refine calls_of_CW 46 [] [(0, .func (.yield ln) #[] #[]), (1, .pointer (some ⟨b, 0, none⟩))] Tryd.func43 rfl rfl rfl (by simp) args2 ?_
  have hE : Ext w w := Chg.refl
  refine CW.seq fun K1 hK1 => ?_
  refine CW.region ?_   -- region 0
  refine WL.val (Y.load1 Tryd.underlying49 rfl (hB0.ext hE).mem.cell0 rfl) (by decide) ?_   -- t11 := load 49 t1
  refine WL.call Tryd.func44 rfl rfl rfl (snames_any g r l _ (hT.ext hE)) (by simp) ?_; rintro v12 w1 hR1   -- t12 := call F44(t11) : 49
  obtain ⟨hNo, hNf, hx1⟩ := hR1
  have hz1 := hx1.size
  have hE := hE.thenExt hx1
  obtain ⟨An, mn, cn, rfl⟩ := hNo.lens
  obtain ⟨hnl, hncap, hnmx⟩ := hNo.len digC_length (by decide)
  have hNlt := hNo.lt
  unfold maxLen at hnmx
  have hnl2 := namesL_length l
  refine WL.val (Y.assign rfl) (by decide) ?_   -- t3 := assign t12
  refine WL.nil ?_
  refine hK1 _ _ ?_; try clear hK1 K1
  refine CW.seq fun K2 hK2 => ?_
  refine CW.region ?_   -- region 1
  refine WL.val (Y.assign rfl) (by decide) ?_   -- t4 := assign c(nilslice)
  refine WL.nil ?_
  refine hK2 _ _ ?_; try clear hK2 K2
  refine CW.seq fun K3 hK3 => ?_
  refine CW.seq fun K4 hK4 => ?_
  refine CW.region ?_   -- region 2
  refine WL.val (Y.move rfl) (by decide) ?_   -- t13 := move t3
  refine WL.val (Y.len_slice Tryd.underlying29 rfl) (by decide) ?_   -- t14 := call len(t13) : 29
  refine WL.val (Y.move rfl) (by decide) ?_   -- t15 := move c(0:i64)
  refine WL.nil ?_
  refine hK4 _ _ ?_; try clear hK4 K4
  refine CW.block ?_   -- block 0
  refine CW.loop (X := Nat × Value × List Value) (fun x => [(0, .func (.yield ln) #[] #[]), (1, .pointer (some ⟨b, 0, none⟩)), (3, .slice An mn cn), (4, x.2.1), (13, .slice An mn cn), (14, .int .i64 (mn : Int)), (15, .int .i64 (x.1 : Int))]) (fun x w0 => x.1 ≤ mn ∧ x.2.2.length = x.1 ∧ Own w0 TSl8 1 x.2.1 (flatV x.2.2) ∧ (∀ k, x.2.1.ownBlock = some k → w1.heap.size ≤ k) ∧ (∀ v ∈ x.2.2, ∀ k, v.ownBlock = some k → w1.heap.size ≤ k ∧ k < w0.heap.size ∧ x.2.1.ownBlock ≠ some k) ∧ apartV x.2.2 ∧ (∀ j v d, x.2.2[j]? = some v → (namesL l)[j]? = some d → Own w0 TU8 1 v (bytesC (getB l d))) ∧ Own w0 TDg 32 (.slice An mn cn) (flatD (namesL l)) ∧ Ext w w0 ∧ w1.heap.size ≤ w0.heap.size) (fun x => mn - x.1) (0, .slice none 0 0, []) (by repeat (first | exact Fr.le.nil | refine Fr.le.cons rfl ?_)) ⟨Nat.zero_le _, rfl, Own.nil, (fun k h => by simp [Value.ownBlock] at h), (fun v h => (nilMem h).elim), (fun i j u v k h _ _ _ => (nilGet h).elim), (fun j v d h _ => (nilGet h).elim), hNo, hE, Nat.le_refl _⟩ ?_
  intro x w2 hl2
  obtain ⟨i, u, bs⟩ := x
  dsimp only at hl2 ⊢
  obtain ⟨hi, hbl, hO, hfu, hbf, hap, hown, hN, hE, hz2⟩ := hl2
  obtain ⟨B, mb, cb, rfl⟩ := hO.lens
  have hlo := hO.lt
  refine CW.seq fun K5 hK5 => ?_
  refine CW.region ?_   -- region 3
  refine WL.val (Y.lss rfl rfl) (by decide) ?_   -- t16 := binOp lss 3 t15 t14 3
  refine WL.nil ?_
  refine hK5 _ _ ?_; try clear hK5 K5
  refine CW.seq fun K6 hK6 => ?_
  first | refine CW.condD rfl (fun ht7 => ?_) (fun ht7 => ?_) | refine CW.condND rfl (fun ht7 => ?_) (fun ht7 => ?_) | refine CW.condN rfl (fun ht7 => ?_) (fun ht7 => ?_) | refine CW.cond rfl (fun ht7 => ?_) (fun ht7 => ?_)
  · -- then
    refine CW.skip ?_
    refine hK6 _ _ ?_; try clear hK6 K6
    refine CW.seq fun K8 hK8 => ?_
    refine CW.block ?_   -- block 1
    refine CW.seq fun K9 hK9 => ?_
    obtain ⟨d, hd⟩ : ∃ d, (namesL l)[i]? = some d := ⟨_, List.getElem?_eq_getElem (by omega)⟩
    obtain ⟨a, rfl, hma⟩ := (hN.sl digC_length (by decide)).at hd
    refine CW.region ?_   -- region 4
    refine WL.val (Y.indexAddrN Tryd.underlying29 rfl rfl sz0_apiDigest (by omega)) (by decide) ?_   -- t17 := indexAddr 29 t13 t15
    refine WL.val (Y.load Tryd.underlying31 rfl hma (sz_apiDigest _) rfl) (by decide) ?_   -- t18 := load 31 t17
    refine as_apiDigest rfl (by simp) (by decide) fun g6 w3 hx3 hg6 hB6 => ?_   -- alloc 31; store 31 t6 t18
    have hlt6 := hB6.lt; have hz3 := hx3.size
    have hM6 := hB6.mem; have hz3 := hx3.size; have hE := hE.thenExt hx3
    refine WL.nil ?_
    refine hK9 _ _ ?_; try clear hK9 K9
    refine CW.seq fun K10 hK10 => ?_
    refine CW.region ?_   -- region 5
    refine WL.val (Y.load1 Tryd.underlying49 rfl (hB0.ext hE).mem.cell0 rfl) (by decide) ?_   -- t20 := load 49 t1
    refine WL.val (Y.load Tryd.underlying31 rfl hB6.mem (sz_apiDigest _) rfl) (by decide) ?_   -- t21 := load 31 t6
    refine WL.call Tryd.func37 rfl rfl rfl (stGet_any g r l d _ (hT.ext hE)) (by simp) ?_; rintro v22 w4 hR4   -- t22 := call F37(t20, t21) : 49,31
    obtain ⟨v, rfl, hV, hvf, hx4⟩ := hR4
    have hz4 := hx4.size
    have hE := hE.thenExt hx4
    have hVlt := hV.lt
    obtain ⟨Av, mv, cv, rfl⟩ := hV.lens
    refine WL.val (Y.move rfl) (by decide) ?_   -- t19 := move t22
    refine WL.val (Y.extract rfl rfl) (by decide) ?_   -- t23 := extract t19 0
    refine WL.val (Y.extract rfl rfl) (by decide) ?_   -- t24 := extract t19 1
    refine WL.val (Y.assign rfl) (by decide) ?_   -- t7 := assign t23
    refine WL.val (Y.assign rfl) (by decide) ?_   -- t8 := assign t24
    refine WL.nil ?_
    refine hK10 _ _ ?_; try clear hK10 K10
    refine CW.region ?_   -- region 6
    refine WL.val (Y.move rfl) (by decide) ?_   -- t25 := move t4
    refine WL.val (Y.move rfl) (by decide) ?_   -- t26 := move t7
    refine WL.st (St.buildSlice rfl (bs1_sl8 _ _ _)) (by decide) fun v27 w5 hR5 => ?_   -- t27 := buildSlice 88 1 [(0,t26)]
    obtain ⟨g27, rfl, hg27, hB27, hx5⟩ := hR5
    have hz5 := hx5.size
    have hE := hE.thenExt hx5
    have hx35 := (hx3.thenExt hx4).thenExt hx5
    refine WL.st (St.append Tryd.underlying88 Tryd.underlying88 ai_sl8 rfl rfl (hO.ext hx35) (Src.one hB27 rfl) (one1 rfl) (by rw [flat_length encV_length]; omega)) (by decide) fun v28 w6 hR6 => ?_   -- t28 := call append(t25, t27) : 88,88
    obtain ⟨hO6, hc6, hf6⟩ := hR6
    have hz6 := hc6.size
    have hE := hE.step hc6 (fun k h => by have := hfu k h; omega)
    refine WL.val (Y.assign rfl) (by decide) ?_   -- t4 := assign t28
    refine WL.nil ?_
    refine hK8 _ _ ?_; try clear hK8 K8
    refine CW.region ?_   -- region 7
    refine WL.val (Y.add rfl rfl ⟨by omega, by omega⟩) (by decide) ?_   -- t29 := binOp add 3 t15 c(1:i64) 3
    refine WL.val (Y.move rfl) (by decide) ?_   -- t15 := move t29
    refine WL.nil ?_
    refine ⟨(i + 1, v28, bs ++ [.slice Av mv cv]), by show mn - (i + 1) < mn - i; omega, (by repeat (first | exact Fr.le.nil | refine Fr.le.cons rfl ?_)), by show i + 1 ≤ mn; omega, by show (bs ++ [_]).length = i + 1; rw [List.length_append, List.length_singleton, hbl], (by show Own _ _ _ _ (flatV (bs ++ [_])); simpa [flatV] using hO6), ?_, ?_, hap.app (m := w3.heap.size) (fun u hu k hk => by have := (hbf u hu k hk).2.1; omega) hvf, ?_, (hN.ext hx35).chg hc6 (fun k hk h => by have := hNlt k hk; have := hfu k h; omega), hE, by omega⟩
    · intro k hk
      rcases hf6 with h | h
      · rw [h] at hk; exact hfu k hk
      · have := h k hk; omega
    · intro v hv k hk
      have key : w1.heap.size ≤ k ∧ k < w5.heap.size ∧ (Value.slice B mb cb).ownBlock ≠ some k := by
        rcases List.mem_append.1 hv with hv | hv
        · have := hbf v hv k hk; exact ⟨this.1, by omega, this.2.2⟩
        · simp at hv; subst hv
          have h1 := hvf k hk; have h2 := hVlt k hk
          exact ⟨by omega, by omega, fun h => by have := hlo k h; omega⟩
      refine ⟨key.1, by omega, fun h => ?_⟩
      rcases hf6 with h6 | h6
      · exact key.2.2 (h6 ▸ h)
      · have := h6 k h; omega
    · intro j v d2 hj hd2
      have hjl := (List.getElem?_eq_some_iff.1 hj).1
      simp only [List.length_append, List.length_singleton] at hjl
      by_cases ej : j < bs.length
      · rw [List.getElem?_append_left ej] at hj
        exact ((hown j v d2 hj hd2).ext hx35).chg hc6 (fun k hk h => (hbf v (List.mem_of_getElem? hj) k hk).2.2 h)
      · have ej : j = i := by omega
        subst ej
        rw [List.getElem?_append_right (by omega), show j - bs.length = 0 by omega] at hj
        simp at hj; subst hj
        rw [hd] at hd2; cases hd2
        exact (hV.ext hx5).chg hc6 (fun k hk h => by have := hvf k hk; have := hlo k h; omega)
  -- else
  refine CW.exit ?_   -- exit 0
  refine hK3 _ _ ?_; try clear hK3 K3
  refine CW.seq fun K11 hK11 => ?_
  refine CW.region ?_   -- region 8
  refine WL.val (Y.move rfl) (by decide) ?_   -- t30 := move t3
  refine WL.val (Y.len_slice Tryd.underlying29 rfl) (by decide) ?_   -- t31 := call len(t30) : 29
  refine WL.val (Y.move rfl) (by decide) ?_   -- t32 := move c(0:i64)
  refine WL.nil ?_
  refine hK11 _ _ ?_; try clear hK11 K11
  refine CW.block ?_   -- block 2
  refine CW.loop (X := Nat) (fun x => [(0, .func (.yield ln) #[] #[]), (4, .slice B mb cb), (30, .slice An mn cn), (31, .int .i64 (mn : Int)), (32, .int .i64 (x : Int))]) (fun x w0 => x ≤ mn ∧ J ⟨w.heap.size, w2.heap.size, bs⟩ x w0 ∧ Own w0 TDg 32 (.slice An mn cn) (flatD (namesL l)) ∧ Own w0 TSl8 1 (.slice B mb cb) (flatV bs) ∧ (∀ j v d, x ≤ j → bs[j]? = some v → (namesL l)[j]? = some d → Own w0 TU8 1 v (bytesC (getB l d))) ∧ w2.heap.size ≤ w0.heap.size) (fun x => mn - x) 0 (by repeat (first | exact Fr.le.nil | refine Fr.le.cons rfl ?_)) ⟨Nat.zero_le _, hS _ _ hE ⟨Nat.le_refl _, Nat.le_refl _, by show bs.length = _; omega, fun v hv k hk => by have := hbf v hv k hk; exact ⟨by show w.heap.size ≤ k; omega, this.2.1⟩, hap⟩, hN, hO, (fun j v d _ => hown j v d), Nat.le_refl _⟩ ?_
  intro x w7 hl7
  obtain ⟨hx, hj7, hN, hO, hown, hz7⟩ := hl7
  have hE : Ext w7 w7 := Chg.refl
  have hbl2 := (hO.len encV_length (by decide)).1
  refine CW.seq fun K12 hK12 => ?_
  refine CW.region ?_   -- region 9
  refine WL.val (Y.lss rfl rfl) (by decide) ?_   -- t33 := binOp lss 3 t32 t31 3
  refine WL.nil ?_
  refine hK12 _ _ ?_; try clear hK12 K12
  refine CW.seq fun K13 hK13 => ?_
  first | refine CW.condD rfl (fun ht14 => ?_) (fun ht14 => ?_) | refine CW.condND rfl (fun ht14 => ?_) (fun ht14 => ?_) | refine CW.condN rfl (fun ht14 => ?_) (fun ht14 => ?_) | refine CW.cond rfl (fun ht14 => ?_) (fun ht14 => ?_)
  · -- then
    refine CW.skip ?_
    refine hK13 _ _ ?_; try clear hK13 K13
    refine CW.seq fun K15 hK15 => ?_
    refine CW.block ?_   -- block 3
    refine CW.seq fun K16 hK16 => ?_
    obtain ⟨d, hd⟩ : ∃ d, (namesL l)[x]? = some d := ⟨_, List.getElem?_eq_getElem (by omega)⟩
    obtain ⟨v, hv⟩ : ∃ v, bs[x]? = some v := ⟨_, List.getElem?_eq_getElem (by omega)⟩
    obtain ⟨a, rfl, hma⟩ := (hN.sl digC_length (by decide)).at hd
    obtain ⟨c0, rfl, hmc⟩ := (hO.sl encV_length (by decide)).at hv
    refine CW.region ?_   -- region 10
    refine WL.val (Y.move rfl) (by decide) ?_   -- t34 := move t32
    refine WL.val (Y.indexAddrN Tryd.underlying29 rfl rfl sz0_apiDigest (by omega)) (by decide) ?_   -- t35 := indexAddr 29 t30 t32
    refine WL.val (Y.load Tryd.underlying31 rfl hma (sz_apiDigest _) rfl) (by decide) ?_   -- t36 := load 31 t35
    refine WL.alloc (hid) (hzd) rfl (by decide) fun g10 w8 hx8 hg10 hB10 => ?_   -- t10 := alloc 31
    have hlt10 := hB10.lt; have hz8 := hx8.size
    have hM10 := hB10.mem; have hz8 := hx8.size; have hE := hE.thenExt hx8
    refine WL.val (Y.assign rfl) (by decide) ?_   -- t9 := assign t34
    refine WL.store (g := g10) (pre := []) (old := digC Dig.zero) (post := []) (new := digC d) rfl rfl rfl rfl (sz_apiDigest _) (by simpa using hB10) (by first | rfl | (simp [digC_length, opC_length]; done) | (simp only [digC_length, opC_length]; omega)) (one_digC) (fun w9 hc9 hB9_ => ?_)   -- _ := store 31 t10 t36
    have hz9 := hc9.size; have hE := hE.step hc9 (fun k h => by omega)
    have hB10 : Blk w9 g10 31 (digC d) := by simpa using hB9_
    refine WL.nil ?_
    refine hK16 _ _ ?_; try clear hK16 K16
    refine CW.seq fun K17 hK17 => ?_
    refine CW.headI 6 (by kernel_rfl) (by kernel_rfl) fun w10 hx10 => ?_   -- region 11
    skip; have hz10 := hx10.size; have hE := hE.thenExt hx10; have hB10 := hB10.ext hx10
    refine HL.val (Y.move rfl) (by decide) ?_   -- t37 := move t0
    refine HL.val (Y.load Tryd.underlying31 rfl hB10.mem (sz_apiDigest _) rfl) (by decide) ?_   -- t38 := load 31 t10
    refine HL.val (Y.move rfl) (by decide) ?_   -- t39 := move t4
    refine HL.val (Y.move rfl) (by decide) ?_   -- t40 := move t9
    refine HL.val (Y.indexAddrN Tryd.underlying88 rfl rfl sz0_suint8 (by omega)) (by decide) ?_   -- t41 := indexAddr 88 t39 t40
    refine HL.val (Y.load1 Tryd.underlying33 rfl (hmc.ext hE).cell0 rfl) (by decide) ?_   -- t42 := load 33 t41
    refine HL.nil ?_
    refine WI.yield rfl rfl (hR _ x (d, v) w10 (hJ _ _ _ _ hj7 hE) (List.getElem?_zip_eq_some.2 ⟨hd, hv⟩) (fun y hy => by obtain ⟨h1, h2⟩ := List.getElem?_zip_eq_some.1 hy; exact (hown x _ _ (Nat.le_refl _) h2 h1).ext hE)) (by decide) (fun b43 w11 hR11 => ?_)   -- t43 := call t37(t38, t42) : 31,33
    skip
    refine WI.val (Y.not rfl) (by decide) ?_   -- t44 := unOp not 4 t43
    refine WI.nil ?_
    refine hK17 _ _ ?_; try clear hK17 K17
    first | refine CW.condD rfl (fun ht18 => ?_) (fun ht18 => ?_) | refine CW.condND rfl (fun ht18 => ?_) (fun ht18 => ?_) | refine CW.condN rfl (fun ht18 => ?_) (fun ht18 => ?_) | refine CW.cond rfl (fun ht18 => ?_) (fun ht18 => ?_)
    · -- then
      refine CW.ret ⟨_, rfl, ?_⟩
      rcases hR11 with ⟨hb, _⟩ | ⟨_, h, _⟩
      · simp_all
      · exact ⟨.inr h, trivial⟩
    -- else
    refine CW.skip ?_
    refine hK15 _ _ ?_; try clear hK15 K15
    refine CW.region ?_   -- region 12
    refine WL.val (Y.add rfl rfl ⟨by omega, by omega⟩) (by decide) ?_   -- t45 := binOp add 3 t32 c(1:i64) 3
    refine WL.val (Y.move rfl) (by decide) ?_   -- t32 := move t45
    refine WL.nil ?_
    rcases hR11 with ⟨_, hj, hc⟩ | ⟨hb, _⟩
    · have hz11 := hc.size
      refine ⟨x + 1, by show mn - (x + 1) < mn - x; omega, (by repeat (first | exact Fr.le.nil | refine Fr.le.cons rfl ?_)), by show x + 1 ≤ mn; omega, hj, ?_, ?_, ?_, by omega⟩
      · refine (hN.ext hE).chg hc fun k hk h => h ⟨hNf k hk, (by show k < w2.heap.size; have := hNlt k hk; omega), fun j v2 _ hv2 hk2 => ?_⟩
        have := hbf v2 (List.mem_of_getElem? hv2) k hk2; have := hNlt k hk; omega
      · refine (hO.ext hE).chg hc fun k hk h => h ⟨(by show w.heap.size ≤ k; have := hfu k hk; omega), hlo k hk, fun j v2 _ hv2 hk2 => (hbf v2 (List.mem_of_getElem? hv2) k hk2).2.2 hk⟩
      · intro j v2 d2 hxj hv2 hd2
        refine ((hown j v2 d2 (by omega) hv2 hd2).ext hE).chg hc fun k hk h => h ⟨(by show w.heap.size ≤ k; have := hbf v2 (List.mem_of_getElem? hv2) k hk; omega), (hbf v2 (List.mem_of_getElem? hv2) k hk).2.1, fun j3 v3 hj3 hv3 hk3 => ?_⟩
        have := hap j3 j v3 v2 k hv3 hv2 hk3 hk; omega
    · simp_all
  -- else
  refine CW.exit ?_   -- exit 2
  refine ⟨_, rfl, ?_⟩
  refine ⟨.inl ⟨⟨w.heap.size, w2.heap.size, bs⟩, ?_⟩, trivial⟩
  have e : (allXs l ⟨w.heap.size, w2.heap.size, bs⟩).length = x := by simp only [allXs, List.length_zip]; omega
  rw [e]
  exact hj7
end Go.Proofs.YtoncdfpohdchgaaDoor

/- What a store holds, by what was put: the plain law of StoreOnce. No condition; no program. -/
namespace Go.Proofs.YtoncdfpohdchgaaDoor
open Go.RowKit Go.Fw Go.Pl Go.Sort
theorem nodup_leD : ∀ {a b : List Dig}, a.Nodup → (∀ x ∈ a, x ∈ b) → a.length ≤ b.length
  | [], _, _, _ => Nat.zero_le _
  | x :: a, b, h, hs => by
    have h' := List.nodup_cons.1 h
    have hx := hs x (by simp)
    have ih := nodup_leD (a := a) (b := b.erase x) h'.2 (fun y hy => (List.mem_erase_of_ne (fun (e : y = x) => h'.1 (by rw [← e]; exact hy))).2 (hs y (by simp [hy])))
    rw [List.length_erase_of_mem hx] at ih
    have := List.length_pos_of_mem hx
    simp only [List.length_cons]
    omega
/-- What a store has under a digest. -/
def valOf (l : List Ent) (d : Dig) : Option (List UInt8) := (at_ l d).map fun p => p.2.b
theorem at_mem {l : List Ent} (h : Unlike l) {e : Ent} (he : e ∈ l) : ∃ j, at_ l e.k = some (j, e) := by
  cases hp : at_ l e.k with
  | none => exact absurd rfl (mfind_none hp e he)
  | some p =>
    obtain ⟨j, f⟩ := p
    obtain ⟨_, hj, hk⟩ := mfind_some hp
    rw [Nat.sub_zero] at hj
    obtain ⟨i, hi⟩ := List.mem_iff_getElem?.1 he
    have hil := (List.getElem?_eq_some_iff.1 hi).1
    have h1 : (l.map Ent.k)[i]? = some e.k := by simp [hi]
    have h2 : (l.map Ent.k)[j]? = some e.k := by simp [hj, hk]
    have := (List.getElem?_inj (by simpa using hil) h).1 (h1.trans h2.symm)
    subst this
    rw [hi] at hj; cases hj
    exact ⟨i, rfl⟩
theorem valOf_iff {l : List Ent} (h : Unlike l) {d : Dig} {x : List UInt8} : valOf l d = some x ↔ ∃ e ∈ l, e.k = d ∧ e.b = x := by
  constructor
  · intro hv
    obtain ⟨⟨j, e⟩, hp, rfl⟩ := Option.map_eq_some_iff.1 hv
    obtain ⟨_, hj, hk⟩ := mfind_some hp
    exact ⟨e, List.mem_of_getElem? hj, hk, rfl⟩
  · rintro ⟨e, he, rfl, rfl⟩
    obtain ⟨j, hj⟩ := at_mem h he
    rw [valOf, hj]; rfl
theorem getB_val {l : List Ent} {d : Dig} {x : List UInt8} (h : valOf l d = some x) : getB l d = x := by
  obtain ⟨⟨j, e⟩, hp, rfl⟩ := Option.map_eq_some_iff.1 h
  simp [getB, hp]
theorem val_getB {l : List Ent} {d : Dig} (h : (at_ l d).isSome = true) : valOf l d = some (getB l d) := by
  obtain ⟨⟨j, e⟩, hp⟩ := Option.isSome_iff_exists.1 h
  simp [valOf, getB, hp]
/-- A store that these texts were put into. -/
structure Holds (l : List Ent) (J : List (List UInt8)) : Prop where
  keys : Unlike l
  val : ∀ d x, valOf l d = some x ↔ x ∈ J ∧ x.length ≤ 131072 ∧ shaD x = d
theorem Holds.nil : Holds [] [] := ⟨List.nodup_nil, fun d x => by simp [valOf, mfind]⟩
theorem Holds.congr {l : List Ent} {J K : List (List UInt8)} (h : Holds l J) (hJ : ∀ x, x ∈ J ↔ x ∈ K) : Holds l K := ⟨h.keys, fun d x => by rw [h.val, hJ]⟩
theorem Holds.ent {l : List Ent} {J : List (List UInt8)} (h : Holds l J) {e : Ent} (he : e ∈ l) : e.b ∈ J ∧ e.b.length ≤ 131072 ∧ shaD e.b = e.k := (h.val _ _).1 ((valOf_iff h.keys).2 ⟨e, he, rfl, rfl⟩)
theorem Holds.len {l : List Ent} {J : List (List UInt8)} (h : Holds l J) : l.length ≤ J.length := by
  have hn : (l.map Ent.k).Nodup := h.keys
  have := nodup_leD hn (b := J.map shaD) fun d hd => by
    obtain ⟨e, he, rfl⟩ := List.mem_map.1 hd
    obtain ⟨h1, _, h3⟩ := h.ent he
    exact List.mem_map.2 ⟨e.b, h1, h3⟩
  simpa using this
theorem Holds.put {l l' : List Ent} {J : List (List UInt8)} {b : List UInt8} (h : Holds l J) (h10 : putE l b ≠ 10) (hf : l.length < 500) (hP : PutL l b l') (hk : Unlike l') : Holds l' (J ++ [b]) := by
  refine ⟨hk, fun d x => ?_⟩
  rw [List.mem_append, List.mem_singleton]
  unfold PutL at hP
  by_cases hl : 131072 < b.length
  · have hE : putE l b = 3 := by rw [putE, if_pos hl]
    rw [if_neg (by rw [hE]; rintro ⟨h, _⟩; omega)] at hP
    subst hP
    rw [h.val]
    constructor
    · rintro ⟨h1, h2, h3⟩; exact ⟨.inl h1, h2, h3⟩
    · rintro ⟨h1 | rfl, h2, h3⟩
      · exact ⟨h1, h2, h3⟩
      · omega
  · by_cases ht : (at_ l (shaD b)).isSome = true
    · have hg : getB l (shaD b) = b := by
        by_cases hb : getB l (shaD b) = b
        · exact hb
        · exact absurd (by rw [putE, if_neg hl, if_pos ht, if_neg hb]) h10
      have hv := val_getB ht
      rw [hg] at hv
      rw [if_neg (by rintro ⟨_, hn⟩; rw [hn] at ht; cases ht)] at hP
      subst hP
      rw [h.val]
      constructor
      · rintro ⟨h1, h2, h3⟩; exact ⟨.inl h1, h2, h3⟩
      · rintro ⟨h1 | rfl, h2, h3⟩
        · exact ⟨h1, h2, h3⟩
        · have := (h.val _ _).1 hv
          exact ⟨this.1, h2, h3⟩
    · have hn : at_ l (shaD b) = none := by simpa using ht
      have hE : putE l b = 0 := by rw [putE, if_neg hl, if_neg ht, if_neg (by omega)]
      rw [if_pos ⟨hE, hn⟩] at hP
      obtain ⟨e, rfl, hek, heb⟩ := hP
      rw [valOf_iff hk]
      constructor
      · rintro ⟨f, hf, rfl, rfl⟩
        rcases List.mem_append.1 hf with hf | hf
        · obtain ⟨h1, h2, h3⟩ := h.ent hf
          exact ⟨.inl h1, h2, h3⟩
        · simp at hf; subst hf
          exact ⟨.inr heb, by rw [heb]; omega, by rw [heb, hek]⟩
      · rintro ⟨h1 | rfl, h2, h3⟩
        · obtain ⟨f, hf, h4, h5⟩ := (valOf_iff h.keys).1 ((h.val d x).2 ⟨h1, h2, h3⟩)
          exact ⟨f, List.mem_append_left _ hf, h4, h5⟩
        · exact ⟨e, List.mem_append_right _ (by simp), hek.trans h3, heb⟩
/-- No two unlike texts of these have one digest. -/
def NoColl (J : List (List UInt8)) : Prop := ∀ x ∈ J, ∀ y ∈ J, x.length ≤ 131072 → y.length ≤ 131072 → shaD x = shaD y → x = y
theorem Holds.noColl {l : List Ent} {J : List (List UInt8)} (h : Holds l J) : NoColl J := fun x hx y hy h1 h2 h3 => by
  have a := (h.val _ _).2 ⟨hx, h1, rfl⟩
  have b := (h.val _ _).2 ⟨hy, h2, rfl⟩
  rw [h3, b] at a
  exact (Option.some.inj a).symm
theorem Holds.no10 {l : List Ent} {J K : List (List UInt8)} {b : List UInt8} (h : Holds l J) (hc : NoColl K) (hJ : ∀ x ∈ J, x ∈ K) (hb : b ∈ K) : putE l b ≠ 10 := by
  unfold putE
  split
  · omega
  · rename_i hl
    split
    · rename_i ht
      have hv := val_getB ht
      obtain ⟨h1, h2, h3⟩ := (h.val _ _).1 hv
      have := hc _ (hJ _ h1) _ hb h2 (by omega) h3
      rw [if_pos this]; omega
    · split <;> omega
theorem Holds.same {s t : List Ent} {J K : List (List UInt8)} (hs : Holds s J) (ht : Holds t K) (h : ∀ x, x ∈ J ↔ x ∈ K) (d : Dig) : valOf s d = valOf t d := by
  have hi : ∀ x, valOf s d = some x ↔ valOf t d = some x := fun x => by rw [hs.val, ht.val, h]
  cases ha : valOf s d with
  | some x => exact ((hi x).1 ha).symm
  | none =>
    cases hb : valOf t d with
    | none => rfl
    | some x => rw [(hi x).2 hb] at ha; cases ha
theorem names_val {l : List Ent} (h : Unlike l) {d : Dig} : d ∈ namesL l ↔ ∃ x, valOf l d = some x := by
  rw [namesL_mem]
  constructor
  · rintro ⟨e, he, rfl⟩; exact ⟨e.b, (valOf_iff h).2 ⟨e, he, rfl, rfl⟩⟩
  · rintro ⟨x, hx⟩
    obtain ⟨e, he, hk, _⟩ := (valOf_iff h).1 hx
    exact ⟨e, he, hk⟩
theorem names_same {s t : List Ent} (hs : Unlike s) (ht : Unlike t) (h : ∀ d, valOf s d = valOf t d) : namesL s = namesL t :=
  up_eq (namesL_up hs) (namesL_up ht) fun d => by rw [names_val hs, names_val ht, h]
theorem getB_same {s t : List Ent} {d : Dig} (h : valOf s d = valOf t d) : getB s d = getB t d := by
  cases hv : valOf s d with
  | some x => rw [getB_val hv, getB_val (h.symm.trans hv)]
  | none =>
    have a : at_ s d = none := by simpa [valOf] using hv
    have b : at_ t d = none := by rw [h] at hv; simpa [valOf] using hv
    rw [getB, getB, a, b]
theorem pairs_nodup {l : List Ent} (h : Unlike l) : (l.map fun e => (e.k, e.b)).Nodup := by
  unfold Unlike List.Nodup at h
  rw [List.pairwise_map] at h
  rw [List.Nodup, List.pairwise_map]
  exact h.imp fun hne e => hne (congrArg Prod.fst e)
theorem total_same {s t : List Ent} (hs : Unlike s) (ht : Unlike t) (h : ∀ d, valOf s d = valOf t d) : total s = total t := by
  have hp : (s.map fun e => (e.k, e.b)).Perm (t.map fun e => (e.k, e.b)) := (List.perm_ext_iff_of_nodup (pairs_nodup hs) (pairs_nodup ht)).2 fun ⟨d, x⟩ => by
    have h1 := valOf_iff hs (d := d) (x := x)
    have h2 := valOf_iff ht (d := d) (x := x)
    rw [h d] at h1
    simp only [List.mem_map, Prod.mk.injEq]
    exact h1.symm.trans h2
  have := (hp.map fun p => p.2.length).sum_nat
  simpa [total, List.map_map, Function.comp_def] using this
/-- The texts, each behind its digest's bytes. -/
def strL (l : List Ent) : List (List UInt8) := (namesL l).map fun d => d.1 ++ getB l d
theorem strL_same {s t : List Ent} (hs : Unlike s) (ht : Unlike t) (h : ∀ d, valOf s d = valOf t d) : strL s = strL t := by
  rw [strL, strL, names_same hs ht h]
  exact List.map_congr_left fun d _ => by rw [getB_same (h d)]
theorem bl_app : ∀ {a b : List UInt8} (x y : List UInt8), a.length = b.length → Op.bytesLess a b = true → Op.bytesLess (a ++ x) (b ++ y) = true
  | [], [], _, _, _, h => by simp [Op.bytesLess] at h
  | [], _ :: _, _, _, h, _ => by simp at h
  | _ :: _, [], _, _, h, _ => by simp at h
  | a :: r, b :: s, x, y, hl, h => by
    simp only [Op.bytesLess, Bool.or_eq_true, decide_eq_true_eq, Bool.and_eq_true, beq_iff_eq, List.cons_append] at h ⊢
    rcases h with h | ⟨h1, h2⟩
    · exact .inl h
    · exact .inr ⟨h1, bl_app x y (by simpa using hl) h2⟩
theorem strL_up {l : List Ent} (h : Unlike l) : (strL l).Pairwise fun x y => Op.bytesLess x y = true := by
  rw [strL, List.pairwise_map]
  exact (namesL_up h).imp fun {a b} hab => bl_app _ _ (by rw [a.2, b.2]) hab
end Go.Proofs.YtoncdfpohdchgaaDoor

/- StoreOnce, walked. No condition. -/
namespace Go.Fw
theorem Chg.ext {S : Nat → Prop} {w w1 w2 : World} (h : Chg S w w1) (k : Ext w1 w2) : Chg S w w2 := h.thenExt k
theorem Y.geq_string {P : Program} {n : NN} {fr : Fr} {w : World} {ty : TypeId} {x y : Operand} {p q : ByteArray} {t t' : TypeId} (hx : ev fr x = some (.string p)) (hy : ev fr y = some (.string q)) :
    Yw P n fr (.binOp .geq t x y t') ty w (.bool (!(Op.bytesLess p.toList q.toList))) w := Y.bin hx hy (by simp [eqGuard_at_string]) (by simp [binOp, Op.stringOp])
theorem Y.geq_less {P : Program} {n : NN} {fr : Fr} {w : World} {ty : TypeId} {x y : Operand} {p q : ByteArray} {t t' : TypeId} (hx : ev fr x = some (.string p)) (hy : ev fr y = some (.string q)) (h : Op.bytesLess p.toList q.toList = true) :
    Yw P n fr (.binOp .geq t x y t') ty w (.bool false) w := by
  have := Y.geq_string (P := P) (n := n) (w := w) (ty := ty) (t := t) (t' := t') hx hy
  rw [h] at this; exact this
theorem Y.neq_same {P : Program} {n : NN} {fr : Fr} {w : World} {ty : TypeId} {x y : Operand} {p : ByteArray} {t t' : TypeId} (hx : ev fr x = some (.string p)) (hy : ev fr y = some (.string p)) :
    Yw P n fr (.binOp .neq t x y t') ty w (.bool false) w := by
  have := Y.neq_string (P := P) (n := n) (w := w) (ty := ty) (t := t) (t' := t') hx hy
  rw [beq_self_eq_true] at this; exact this
end Go.Fw
namespace Go.Proofs.YtoncdfpohdchgaaDoor
open Go.RowKit Go.Fw Go.Pl Go.Sort
abbrev TStr : TypeId := 9
abbrev TSs : TypeId := 22
theorem ai_str : AppInfo Tryd.prog TStr 1 16 := by
  have h : (Tryd.prog.info? TStr).map (fun i => (i.zero, i.size, i.bytes)) = some (some (.string ⟨#[]⟩), 1, 16) := by kernel_rfl
  cases hi : Tryd.prog.info? TStr with
  | none => simp [hi] at h
  | some i => simp [hi] at h; exact ⟨i, .string ⟨#[]⟩, hi, h.1, h.2.1, by simp [Value.cells], h.2.2, by decide, by decide⟩
theorem bs1_str (b : ByteArray) (w : World) : (Instr.buildSlice TSs 1 [(0, .string b)].toArray).run Tryd.prog w = .ok (.slice (some ⟨w.heap.size, 0, none⟩) 1 1) (w.alloc (.cells [.string b].toArray TStr)) := by
  obtain ⟨i, z, hi, hz, hk, _⟩ := ai_str
  exact run_bs1 Tryd.underlying22 hi hz (by omega) (by omega) rfl (by rw [hk]; rfl) w
theorem sz0_string : (Tryd.prog.info? TStr).map (·.size) = some 1 := by kernel_rfl
def strC (p : List UInt8) : List Value := [.string (bs p)]
theorem strC_length (p : List UInt8) : (strC p).length = 1 := rfl
abbrev flatS (xs : List (List UInt8)) : List Value := (xs.map strC).flatten
theorem getB_le {w : World} {g r : Nat} {l : List Ent} (h : StoreAt w g r l) (d : Dig) : (getB l d).length ≤ 131072 := by
  unfold getB
  show (match mfind Ent.k d l 0 with | some p => p.2.b | none => []).length ≤ 131072
  cases hp : mfind Ent.k d l 0 with
  | none => exact Nat.zero_le _
  | some p =>
    obtain ⟨_, hj, _⟩ := mfind_some hp
    exact h.short _ (List.mem_of_getElem? hj)
theorem bs_two (a b : List UInt8) : bs (a ++ b) = bs a ++ bs b := ByteArray.ext (by simp [bs])
theorem strL_length (l : List Ent) : (strL l).length = l.length := by rw [strL, List.length_map, namesL_length]
theorem strL_at {l : List Ent} {i : Nat} {d : Dig} (h : (namesL l)[i]? = some d) : (strL l)[i]? = some (d.1 ++ getB l d) := by rw [strL, List.getElem?_map, h]; rfl
/-- What the other store gets, one after the other. -/
def rotL (J : List (List UInt8)) (k n : Nat) : List (List UInt8) := (List.range n).map fun i => (J[J.length - 1 - (i + k) % J.length]?).getD []
theorem rotL_succ {J : List (List UInt8)} {k n : Nat} {b : List UInt8} (h : J[J.length - 1 - (n + k) % J.length]? = some b) : rotL J k (n + 1) = rotL J k n ++ [b] := by
  rw [rotL, List.range_succ, List.map_append, List.map_cons, List.map_nil, h]; rfl
theorem rotL_length (J : List (List UInt8)) (k n : Nat) : (rotL J k n).length = n := by simp [rotL]
theorem rotL_sub {J : List (List UInt8)} {k n : Nat} (h : 0 < J.length) : ∀ x ∈ rotL J k n, x ∈ J := by
  intro x hx
  obtain ⟨i, _, rfl⟩ := List.mem_map.1 hx
  have hj : J.length - 1 - (i + k) % J.length < J.length := by omega
  rw [List.getElem?_eq_getElem hj]
  exact List.getElem_mem hj
theorem rotL_all {J : List (List UInt8)} {k : Nat} (hk : k < J.length) : ∀ x, x ∈ J ↔ x ∈ rotL J k J.length := by
  intro x
  refine ⟨fun hx => ?_, rotL_sub (by omega) x⟩
  obtain ⟨j, hj⟩ := List.mem_iff_getElem?.1 hx
  have hjl := (List.getElem?_eq_some_iff.1 hj).1
  refine List.mem_map.2 ⟨(J.length - 1 - j + J.length - k) % J.length, List.mem_range.2 (Nat.mod_lt _ (by omega)), ?_⟩
  have h1 : ((J.length - 1 - j + J.length - k) % J.length + k) % J.length = J.length - 1 - j := by
    rw [Nat.mod_add_mod, show J.length - 1 - j + J.length - k + k = J.length - 1 - j + J.length by omega, Nat.add_mod_right]
    exact Nat.mod_eq_of_lt (by omega)
  rw [h1, show J.length - 1 - (J.length - 1 - j) = j by omega, hj]; rfl
theorem Holds.again {l l' : List Ent} {J : List (List UInt8)} {b : List UInt8} (h : Holds l J) (hb : b ∈ J) (hP : PutL l b l') : l' = l := by
  unfold PutL at hP
  rw [if_neg] at hP
  · exact hP
  · rintro ⟨h1, h2⟩
    by_cases hl : 131072 < b.length
    · rw [putE, if_pos hl] at h1; omega
    · have := (h.val _ _).2 ⟨hb, by omega, rfl⟩
      rw [valOf, h2] at this; cases this
theorem map_at {bss : List (Value × List UInt8)} {i : Nat} {v : Value} {b : List UInt8} (h : bss[i]? = some (v, b)) : (bss.map Prod.snd)[i]? = some b := by rw [List.getElem?_map, h]; rfl
theorem pairwise_at {l : List (List UInt8)} (h : l.Pairwise fun x y => Op.bytesLess x y = true) {i j : Nat} {x y : List UInt8} (hij : i < j) (hi : l[i]? = some x) (hj : l[j]? = some y) : Op.bytesLess x y = true := by
  obtain ⟨h1, rfl⟩ := List.getElem?_eq_some_iff.1 hi
  obtain ⟨h2, rfl⟩ := List.getElem?_eq_some_iff.1 hj
  exact List.pairwise_iff_getElem.1 h i j h1 h2 hij

end Go.Proofs.YtoncdfpohdchgaaDoor
