/- The reference's In, both, Heads, Common, Within, walked. No condition. -/
import Derived.Test.YtecolkngbcgmcaaGy
set_option linter.unusedSimpArgs false
set_option linter.unusedVariables false
namespace Go.Fw
open Go.RowKit
theorem Sl.cut {α : Type} {w : World} {enc : α → List Value} {k : Nat} {a : Addr} {m c i j : Nat} {xs : List α} (h : Sl w enc k (.slice (some a) m c) xs) (hij : i ≤ j) (hj : j ≤ m) : Sl w enc k (.slice (some (if c = i then a else a.add (i * k))) (j - i) (c - i)) ((xs.drop i).take (j - i)) := by
  obtain ⟨A, m', c', he, hl, hmc, hcm, hx⟩ := h
  cases he
  refine ⟨_, _, _, rfl, by simp; omega, by omega, by omega, fun q x hq => ⟨_, rfl, ?_⟩⟩
  rw [List.getElem?_take] at hq
  split at hq
  · rw [List.getElem?_drop] at hq
    have hlt := (List.getElem?_eq_some_iff.1 hq).1
    obtain ⟨a', ha, hm⟩ := hx _ _ hq
    cases ha
    rw [if_neg (by omega), add_add, ← Nat.add_mul]
    exact hm
  · cases hq
end Go.Fw
namespace Go.Proofs.Ytecolkngbcgmcaa
open Go.RowKit Go.Fw Go.Pl Go.Sort

theorem rIn_any (u : Value) (l : List Dig) (d : Dig) (w : World) (hd : Sl w digC 32 u l) : Calls Try.prog 27 #[u, digV d] w (Ret fun v w' => v = .bool (decide (d ∈ l)) ∧ Ext w w') := by
  have hd0 := hd
  obtain ⟨A1, c1, rfl, hdc, hdx⟩ := hd.lens
  unfold maxLen at hdx
  
  refine calls_of_CW 18 [4] [(0, .slice A1 l.length c1), (1, digV d)] Try.func27 rfl rfl rfl (by simp) args2 ?_
  have hE : Ext w w := Chg.refl
  refine CW.seq fun K1 hK1 => ?_
  refine CW.region ?_   -- region 0
  refine WL.box rfl rfl (by decide) fun g3 w1 hx1 hg3 hB3 => ?_   -- t3 := box 45 t1
  have hlt3 := hB3.lt; have hz1 := hx1.size
  have hM3 := hB3.mem; have hz1 := hx1.size; have hE := hE.thenExt hx1
  refine WL.val (Y.assign rfl) (by decide) ?_   -- t4 := assign c(false)
  refine WL.nil ?_
  refine hK1 _ _ ?_; try clear hK1 K1
  refine CW.seq fun K2 hK2 => ?_
  refine CW.seq fun K3 hK3 => ?_
  refine CW.region ?_   -- region 1
  refine WL.val (Y.assign rfl) (by decide) ?_   -- t5 := assign c(0:i64)
  refine WL.nil ?_
  refine hK3 _ _ ?_; try clear hK3 K3
  refine CW.block ?_   -- block 0
  refine CW.loop (X := Nat) (fun x => [(0, .slice A1 l.length c1), (3, .pointer (some ⟨g3, 0, none⟩)), (5, .int .i64 (x : Int))]) (fun x w0 => x ≤ l.length ∧ (∀ y, y ∈ l.take x → y ≠ d) ∧ Blk w0 g3 TDg (digC d) ∧ Ext w w0) (fun x => l.length - x) 0 (by repeat (first | exact Fr.le.nil | refine Fr.le.cons rfl ?_)) ⟨Nat.zero_le _, (fun y hy => by simp at hy), hB3, hE⟩ ?_
  intro x w2 hl2
  clear hE hB3
  obtain ⟨hxl, hno, hB3, hE⟩ := hl2
  refine CW.seq fun K4 hK4 => ?_
  refine CW.seq fun K5 hK5 => ?_
  refine CW.region ?_   -- region 2
  refine WL.val (Y.move rfl) (by decide) ?_   -- t6 := move t5
  refine WL.val (Y.move rfl) (by decide) ?_   -- t7 := move t0
  refine WL.val (Y.len_slice Try.underlying23 rfl) (by decide) ?_   -- t8 := call len(t7) : 23
  refine WL.val (Y.lss rfl rfl) (by decide) ?_   -- t9 := binOp lss 3 t6 t8 3
  refine WL.nil ?_
  refine hK5 _ _ ?_; try clear hK5 K5
  first | refine CW.condD rfl (fun ht6 => ?_) (fun ht6 => ?_) | refine CW.condND rfl (fun ht6 => ?_) (fun ht6 => ?_) | refine CW.condN rfl (fun ht6 => ?_) (fun ht6 => ?_) | refine CW.cond rfl (fun ht6 => ?_) (fun ht6 => ?_)
  · -- then
    refine CW.skip ?_
    refine hK4 _ _ ?_; try clear hK4 K4
    refine CW.seq fun K7 hK7 => ?_
    refine CW.block ?_   -- block 1
    refine CW.seq fun K8 hK8 => ?_
    obtain ⟨y, hy⟩ : ∃ y, l[x]? = some y := ⟨_, List.getElem?_eq_getElem (by omega)⟩
    obtain ⟨a, rfl, hma⟩ := hd0.at hy
    refine CW.quiet (fun wq => Ext w2 wq) (by kernel_rfl) (by kernel_rfl) Chg.drew ?_
    refine QL.val (fun wq hq => Y.move rfl) (by decide) ?_   -- t12 := move t0
    refine QL.val (fun wq hq => Y.move rfl) (by decide) ?_   -- t13 := move t5
    refine QL.val (fun wq hq => Y.indexAddrN Try.underlying23 rfl rfl sz0_apiDigest (by omega)) (by decide) ?_   -- t14 := indexAddr 23 t12 t13
    refine QL.val (fun wq hq => Y.load Try.underlying45 rfl (hma.ext (hE.thenExt hq)) (sz_apiDigest _) rfl) (by decide) ?_   -- t15 := load 45 t14
    refine QL.val (fun wq hq => Y.load Try.underlying45 rfl (hB3.ext hq).mem (sz_apiDigest _) rfl) (by decide) ?_   -- t16 := load 45 t3
    refine QL.val (fun wq hq => Y.eql_apiDigest rfl rfl) (by decide) ?_   -- t17 := binOp eql 45 t15 t16 45
    refine QL.nil fun w3 hx3 => ?_
    have hz3 := hx3.size
    have hE := hE.thenExt hx3
    have hB3 := hB3.ext hx3
    refine hK8 _ _ ?_; try clear hK8 K8
    first | refine CW.condD rfl (fun ht9 => ?_) (fun ht9 => ?_) | refine CW.condND rfl (fun ht9 => ?_) (fun ht9 => ?_) | refine CW.condN rfl (fun ht9 => ?_) (fun ht9 => ?_) | refine CW.cond rfl (fun ht9 => ?_) (fun ht9 => ?_)
    · -- then
      refine CW.seq fun K10 hK10 => ?_
      refine CW.region ?_   -- region 5
      refine WL.val (Y.assign rfl) (by decide) ?_   -- t4 := assign c(true)
      refine WL.nil ?_
      refine hK10 _ _ ?_; try clear hK10 K10
      refine CW.ret ⟨_, rfl, ?_⟩
      have hyd : y = d := by assumption
      exact ⟨by rw [decide_eq_true (hyd ▸ List.mem_of_getElem? hy)], hE⟩
    -- else
    refine CW.skip ?_
    refine hK7 _ _ ?_; try clear hK7 K7
    refine CW.region ?_   -- region 3
    refine WL.val (Y.move rfl) (by decide) ?_   -- t10 := move t5
    refine WL.val (Y.add rfl rfl ⟨by omega, by omega⟩) (by decide) ?_   -- t11 := binOp add 3 t10 c(1:i64) 3
    refine WL.val (Y.assign rfl) (by decide) ?_   -- t5 := assign t11
    refine WL.nil ?_
    refine ⟨x + 1, by show l.length - (x + 1) < l.length - x; omega, (by repeat (first | exact Fr.le.nil | refine Fr.le.cons rfl ?_)), by show x + 1 ≤ l.length; omega, ?_, hB3, hE⟩
    intro z hz
    rw [take_succ hy] at hz
    rcases List.mem_append.1 hz with hz | hz
    · exact hno z hz
    · simp at hz; subst hz; assumption
  -- else
  refine CW.exit ?_   -- exit 0
  refine hK2 _ _ ?_; try clear hK2 K2
  refine CW.seq fun K11 hK11 => ?_
  refine CW.region ?_   -- region 6
  refine WL.val (Y.assign rfl) (by decide) ?_   -- t4 := assign c(false)
  refine WL.nil ?_
  refine hK11 _ _ ?_; try clear hK11 K11
  refine CW.ret ⟨_, rfl, ?_⟩
  refine ⟨?_, hE⟩
  rw [List.take_of_length_le (by omega)] at hno
  rw [decide_eq_false fun h => hno d h rfl]
theorem rboth_any (u v0 : Value) (a b : List Dig) (w : World) (hl : Sl w digC 32 u a) (hd : Sl w digC 32 v0 b) (hp : a.length * 32 ≤ 140737488351232) : Calls Try.prog 45 #[u, v0] w (Ret fun v w' => Own w' TDg 32 v (flatD (bothD a b)) ∧ (∀ k, v.ownBlock = some k → w.heap.size ≤ k) ∧ Ext w w') := by
  have hl0 := hl
  obtain ⟨A, c, rfl, hmc, hcm⟩ := hl.lens
  unfold maxLen at hcm
  have hd0 := hd
  obtain ⟨A1, c1, rfl, hdc, hdx⟩ := hd.lens
  unfold maxLen at hdx
  
  refine calls_of_CW 27 [4] [(0, .slice A a.length c), (1, .slice A1 b.length c1)] Try.func45 rfl rfl rfl (by simp) args2 ?_
  have hE : Ext w w := Chg.refl
  refine CW.seq fun K1 hK1 => ?_
  refine CW.region ?_   -- region 0
  refine WL.val (Y.assign rfl) (by decide) ?_   -- t4 := assign c(nilslice)
  refine WL.nil ?_
  refine hK1 _ _ ?_; try clear hK1 K1
  refine CW.seq fun K2 hK2 => ?_
  refine CW.region ?_   -- region 1
  refine WL.val (Y.assign rfl) (by decide) ?_   -- t5 := assign c(nilslice)
  refine WL.nil ?_
  refine hK2 _ _ ?_; try clear hK2 K2
  refine CW.seq fun K3 hK3 => ?_
  refine CW.seq fun K4 hK4 => ?_
  refine CW.region ?_   -- region 2
  refine WL.val (Y.assign rfl) (by decide) ?_   -- t6 := assign c(0:i64)
  refine WL.nil ?_
  refine hK4 _ _ ?_; try clear hK4 K4
  refine CW.block ?_   -- block 0
  refine CW.loop (X := Nat × Value) (fun x => [(0, .slice A a.length c), (1, .slice A1 b.length c1), (5, x.2), (6, .int .i64 (x.1 : Int))]) (fun x w0 => x.1 ≤ a.length ∧ Own w0 TDg 32 x.2 (flatD (bothD (a.take x.1) b)) ∧ (∀ k, x.2.ownBlock = some k → w.heap.size ≤ k) ∧ Ext w w0) (fun x => a.length - x.1) (0, .slice none 0 0) (by repeat (first | exact Fr.le.nil | refine Fr.le.cons rfl ?_)) ⟨Nat.zero_le _, by simpa [flatD] using Own.nil, (fun k h => by simp [Value.ownBlock] at h), hE⟩ ?_
  intro x w1 hl1
  clear hE
  obtain ⟨i, v⟩ := x
  dsimp only at hl1 ⊢
  obtain ⟨hil, hO, hfu, hE⟩ := hl1
  have hol : (bothD (a.take i) b).length ≤ i := Nat.le_trans (List.length_filter_le _ _) (by rw [List.length_take]; omega)
  obtain ⟨B, mb, cb, rfl⟩ := hO.lens
  have hlo := hO.lt
  have hzE := hE.size
  refine CW.seq fun K5 hK5 => ?_
  refine CW.seq fun K6 hK6 => ?_
  refine CW.region ?_   -- region 3
  refine WL.val (Y.move rfl) (by decide) ?_   -- t7 := move t6
  refine WL.val (Y.move rfl) (by decide) ?_   -- t8 := move t0
  refine WL.val (Y.len_slice Try.underlying23 rfl) (by decide) ?_   -- t9 := call len(t8) : 23
  refine WL.val (Y.lss rfl rfl) (by decide) ?_   -- t10 := binOp lss 3 t7 t9 3
  refine WL.nil ?_
  refine hK6 _ _ ?_; try clear hK6 K6
  first | refine CW.condD rfl (fun ht7 => ?_) (fun ht7 => ?_) | refine CW.condND rfl (fun ht7 => ?_) (fun ht7 => ?_) | refine CW.condN rfl (fun ht7 => ?_) (fun ht7 => ?_) | refine CW.cond rfl (fun ht7 => ?_) (fun ht7 => ?_)
  · -- then
    refine CW.skip ?_
    refine hK5 _ _ ?_; try clear hK5 K5
    obtain ⟨d, hdi⟩ : ∃ d, a[i]? = some d := ⟨_, List.getElem?_eq_getElem (by omega)⟩
    obtain ⟨aA, rfl, hma⟩ := hl0.at hdi
    have hsel : bothD (a.take (i + 1)) b = if d ∈ b then bothD (a.take i) b ++ [d] else bothD (a.take i) b := by
      rw [bothD, take_succ hdi, List.filter_append]
      by_cases h : d ∈ b <;> simp [h]
    refine CW.seq_to (X := Value) (fun u => [(0, .slice (some aA) a.length c), (1, .slice A1 b.length c1), (5, u), (6, .int .i64 (i : Int))]) (fun u w0 => Own w0 TDg 32 u (flatD (bothD (a.take (i + 1)) b)) ∧ (∀ k, u.ownBlock = some k → w.heap.size ≤ k) ∧ Ext w w0) ?_ ?_
    · skip
      refine CW.block ?_   -- block 1
      refine CW.seq fun K9 hK9 => ?_
      refine CW.region ?_   -- region 5
      refine WL.val (Y.move rfl) (by decide) ?_   -- t13 := move t1
      refine WL.val (Y.move rfl) (by decide) ?_   -- t14 := move t0
      refine WL.val (Y.move rfl) (by decide) ?_   -- t15 := move t6
      refine WL.val (Y.indexAddrN Try.underlying23 rfl rfl sz0_apiDigest (by omega)) (by decide) ?_   -- t16 := indexAddr 23 t14 t15
      refine WL.val (Y.load Try.underlying45 rfl (hma.ext hE) (sz_apiDigest _) rfl) (by decide) ?_   -- t17 := load 45 t16
      refine WL.call Try.func27 rfl rfl rfl (rIn_any _ b d _ (hd0.ext hE)) (by simp) ?_; rintro v w2 ⟨rfl, hx2⟩; have hz2 := hx2.size; have hE := hE.thenExt hx2   -- t18 := call F27(t13, t17) : 23,45
      refine WL.nil ?_
      refine hK9 _ _ ?_; try clear hK9 K9
      first | refine CW.condD rfl (fun ht10 => ?_) (fun ht10 => ?_) | refine CW.condND rfl (fun ht10 => ?_) (fun ht10 => ?_) | refine CW.condN rfl (fun ht10 => ?_) (fun ht10 => ?_) | refine CW.cond rfl (fun ht10 => ?_) (fun ht10 => ?_)
      · -- then
        refine CW.region ?_   -- region 6
        refine WL.val (Y.move rfl) (by decide) ?_   -- t19 := move t5
        refine WL.val (Y.move rfl) (by decide) ?_   -- t20 := move t0
        refine WL.val (Y.move rfl) (by decide) ?_   -- t21 := move t6
        refine WL.val (Y.indexAddrN Try.underlying23 rfl rfl sz0_apiDigest (by omega)) (by decide) ?_   -- t22 := indexAddr 23 t20 t21
        refine WL.val (Y.load Try.underlying45 rfl (hma.ext hE) (sz_apiDigest _) rfl) (by decide) ?_   -- t23 := load 45 t22
        refine WL.st (St.buildSlice rfl (bs1_dig _)) (by decide) fun v24 w3 hR3 => ?_   -- t24 := buildSlice 23 1 [(0,t23)]
        obtain ⟨gg, rfl, hgg, hBg, hx3⟩ := hR3
        have hz3 := hx3.size
        have hE := hE.thenExt hx3
        refine WL.st (St.append Try.underlying23 Try.underlying23 ai_dig rfl rfl ((hO.ext hx2).ext hx3) (Src.one hBg (digC_length _)) one_digC (by rw [flat_length digC_length]; omega)) (by decide) fun v25 w4 hR4 => ?_   -- t25 := call append(t19, t24) : 23,23
        obtain ⟨hO4, hc4, hf4⟩ := hR4
        have hz4 := hc4.size
        have hE := hE.step hc4 (fun k h => by have := hfu k h; omega)
        have hf4 : ∀ k, v25.ownBlock = some k → w.heap.size ≤ k := by
          rcases hf4 with h | h
          · intro k hk; rw [h] at hk; exact hfu k hk
          · intro k hk; have := h k hk; omega
        refine WL.val (Y.assign rfl) (by decide) ?_   -- t5 := assign t25
        refine WL.nil ?_
        exact ⟨v25, (by repeat (first | exact Fr.le.nil | refine Fr.le.cons rfl ?_)), by rw [hsel, if_pos (by simp_all)]; simpa [flatD] using hO4, hf4, hE⟩
      -- else
      refine CW.skip ?_
      exact ⟨.slice B mb cb, (by repeat (first | exact Fr.le.nil | refine Fr.le.cons rfl ?_)), by rw [hsel, if_neg (by simp_all)]; exact hO.ext hx2, hfu, hE⟩
    rintro u w5 hj5
    clear hE hO hfu
    obtain ⟨hO, hfu, hE⟩ := hj5
    refine CW.region ?_   -- region 4
    refine WL.val (Y.move rfl) (by decide) ?_   -- t11 := move t6
    refine WL.val (Y.add rfl rfl ⟨by omega, by omega⟩) (by decide) ?_   -- t12 := binOp add 3 t11 c(1:i64) 3
    refine WL.val (Y.assign rfl) (by decide) ?_   -- t6 := assign t12
    refine WL.nil ?_
    exact ⟨(i + 1, u), by show a.length - (i + 1) < a.length - i; omega, (by repeat (first | exact Fr.le.nil | refine Fr.le.cons rfl ?_)), by show i + 1 ≤ a.length; omega, hO, hfu, hE⟩
  -- else
  refine CW.exit ?_   -- exit 0
  refine hK3 _ _ ?_; try clear hK3 K3
  refine CW.seq fun K11 hK11 => ?_
  refine CW.region ?_   -- region 7
  refine WL.val (Y.move rfl) (by decide) ?_   -- t26 := move t5
  refine WL.val (Y.assign rfl) (by decide) ?_   -- t4 := assign t26
  refine WL.nil ?_
  refine hK11 _ _ ?_; try clear hK11 K11
  refine CW.ret ⟨_, rfl, ?_⟩
  have hi2 : i = a.length := by omega
  subst hi2
  rw [List.take_length] at hO
  exact ⟨hO, hfu, hE⟩
set_option maxRecDepth 100000 in
set_option maxHeartbeats 2000000 in
theorem rHeads_any (u v0 : Value) (l : List NdV) (ids : List Dig) (w : World) (hl : Nds w u l) (hok : (readE (ndsL l)).2 = 0) (hd : Sl w digC 32 v0 ids) (hin : ∀ d ∈ ids, d ∈ idsL (ndsL l)) (hp : ids.length * 32 ≤ 140737488351232) : Calls Try.prog 16 #[u, v0] w (Ret fun v w' => Own w' TDg 32 v (flatD (headsR (ndsL l) (srtD ids))) ∧ (∀ k, v.ownBlock = some k → w.heap.size ≤ k) ∧ Ext w w') := by
  have hl0 := hl
  obtain ⟨A, c, rfl, hmc, hcm⟩ := hl.sl.lens
  unfold maxLen at hcm
  have hd0 := hd
  obtain ⟨A1, c1, rfl, hdc, hdx⟩ := hd.lens
  unfold maxLen at hdx
  have hnl : (ndsL l).length = l.length := by simp
  have hln := ok_len hok
  obtain ⟨bi, hbi, hbz, hbs, hbb⟩ := info_boolT
  refine calls_of_CW 78 [4] [(0, .slice A l.length c), (1, .slice A1 ids.length c1)] Try.func16 rfl rfl rfl (by simp) args2 ?_
  have hE : Ext w w := Chg.refl
  refine CW.seq fun K1 hK1 => ?_
  refine CW.region ?_   -- region 0
  refine WL.val (Y.assign rfl) (by decide) ?_   -- t4 := assign c(nilslice)
  refine WL.nil ?_
  refine hK1 _ _ ?_; try clear hK1 K1
  refine CW.seq fun K2 hK2 => ?_
  refine CW.region ?_   -- region 1
  refine WL.val (Y.move rfl) (by decide) ?_   -- t12 := move t1
  refine WL.call Try.func37 rfl rfl rfl (sorted_any _ ids _ hd0 hp) (by simp) ?_; rintro v13 w1 hR1   -- t13 := call F37(t12) : 23
  obtain ⟨hO1, hf1, hx1⟩ := hR1
  have hz1 := hx1.size
  have hE := hE.thenExt hx1
  obtain ⟨all, hall⟩ : ∃ a, a = srtD ids := ⟨_, rfl⟩
  rw [← hall] at hO1 ⊢
  have hup : Up all := by rw [hall]; exact srt_up _ _ List.Pairwise.nil
  have hai : ∀ d ∈ all, d ∈ idsL (ndsL l) := fun d h => by
    rw [hall, srtD, srt_mem] at h
    rcases h with h | h
    · exact hin d h
    · cases h
  have hal : all.length ≤ l.length := by
    have := nodup_le (hup.imp fun {a b} hab e => by subst e; rw [less_irrefl] at hab; cases hab) hai
    simpa using this
  obtain ⟨B, mb, cb, rfl⟩ := hO1.lens
  obtain ⟨hlb, hmb, hcb⟩ := hO1.len digC_length (by decide)
  unfold maxLen at hcb
  have hS := hO1.sl digC_length (by decide)
  have hlt1 := hO1.lt
  subst hlb
  refine WL.val (Y.assign rfl) (by decide) ?_   -- t5 := assign t13
  refine WL.nil ?_
  refine hK2 _ _ ?_; try clear hK2 K2
  refine CW.seq fun K3 hK3 => ?_
  refine CW.region ?_   -- region 2
  refine WL.val (Y.move rfl) (by decide) ?_   -- t14 := move t5
  refine WL.val (Y.len_slice Try.underlying23 rfl) (by decide) ?_   -- t15 := call len(t14) : 23
  refine WL.st (St.makeB Try.underlying58 hbi hbz hbs hbb rfl rfl (by omega)) (by decide) fun v16 w2 hR2 => ?_   -- t16 := makeSlice 58 t15 t15
  obtain ⟨ub, rfl, hub, hU, hx2⟩ := hR2
  have hz2 := hx2.size
  have hE := hE.thenExt hx2
  have hS := hS.ext hx2
  have hnb : ∀ k, (Value.slice B all.length cb).ownBlock = some k → k ≠ ub := fun k hk => by have := hlt1 k hk; omega
  refine WL.val (Y.assign rfl) (by decide) ?_   -- t6 := assign t16
  refine WL.nil ?_
  refine hK3 _ _ ?_; try clear hK3 K3
  refine CW.seq fun K4 hK4 => ?_
  refine CW.seq fun K5 hK5 => ?_
  refine CW.region ?_   -- region 3
  refine WL.val (Y.assign rfl) (by decide) ?_   -- t7 := assign c(0:i64)
  refine WL.nil ?_
  refine hK5 _ _ ?_; try clear hK5 K5
  refine CW.block ?_   -- block 0
  refine CW.loop (X := Nat) (fun x => [(0, .slice A l.length c), (5, .slice B all.length cb), (6, .slice (some ⟨ub, 0, none⟩) all.length all.length), (7, .int .i64 (x : Int))]) (fun x w0 => x ≤ all.length ∧ Blk w0 ub TBo (boolC (heU (ndsL l) all x)) ∧ Sl w0 digC 32 (.slice B all.length cb) all ∧ Ext w w0 ∧ w2.heap.size ≤ w0.heap.size) (fun x => all.length - x) 0 (by repeat (first | exact Fr.le.nil | refine Fr.le.cons rfl ?_)) ⟨Nat.zero_le _, by simpa [heU] using hU, hS, hE, Nat.le_refl _⟩ ?_
  intro x w3 hl3
  clear hE hU hS
  obtain ⟨k, rfl⟩ : ∃ k, k = x := ⟨x, rfl⟩
  obtain ⟨hkl, hU, hS, hE, hz3⟩ := hl3
  have hltu := hU.lt
  refine CW.seq fun K6 hK6 => ?_
  refine CW.seq fun K7 hK7 => ?_
  refine CW.region ?_   -- region 4
  refine WL.val (Y.move rfl) (by decide) ?_   -- t17 := move t7
  refine WL.val (Y.move rfl) (by decide) ?_   -- t18 := move t5
  refine WL.val (Y.len_slice Try.underlying23 rfl) (by decide) ?_   -- t19 := call len(t18) : 23
  refine WL.val (Y.lss rfl rfl) (by decide) ?_   -- t20 := binOp lss 3 t17 t19 3
  refine WL.nil ?_
  refine hK7 _ _ ?_; try clear hK7 K7
  first | refine CW.condD rfl (fun ht8 => ?_) (fun ht8 => ?_) | refine CW.condND rfl (fun ht8 => ?_) (fun ht8 => ?_) | refine CW.condN rfl (fun ht8 => ?_) (fun ht8 => ?_) | refine CW.cond rfl (fun ht8 => ?_) (fun ht8 => ?_)
  · -- then
    refine CW.skip ?_
    refine hK6 _ _ ?_; try clear hK6 K6
    refine CW.seq fun K9 hK9 => ?_
    refine CW.block ?_   -- block 1
    refine CW.seq fun K10 hK10 => ?_
    obtain ⟨ak, hak⟩ : ∃ d, all[k]? = some d := ⟨_, List.getElem?_eq_getElem (by omega)⟩
    obtain ⟨aB, rfl, hma⟩ := hS.at hak
    refine CW.region ?_   -- region 6
    refine WL.val (Y.move rfl) (by decide) ?_   -- t23 := move t0
    refine WL.val (Y.move rfl) (by decide) ?_   -- t24 := move t5
    refine WL.val (Y.move rfl) (by decide) ?_   -- t25 := move t7
    refine WL.val (Y.move rfl) (by decide) ?_   -- t26 := move t7
    refine WL.val (Y.add rfl rfl ⟨by omega, by omega⟩) (by decide) ?_   -- t27 := binOp add 3 t26 c(1:i64) 3
    refine WL.val (Y.slice_slI Try.underlying23 rfl rfl rfl sz0_apiDigest rfl (show _ = ((k + 1 : Nat) : Int) by omega) (by omega) (by omega)) (by decide) ?_   -- t28 := slice 23 t24 t25 t27 none
    refine WL.call Try.func38 rfl rfl rfl (rmarks_any _ _ l ((all.drop k).take 1) _ (hl0.ext hE) hok (by rw [show (all.drop k).take 1 = (all.drop k).take (k + 1 - k) by rw [Nat.add_sub_cancel_left]]; exact hS.cut (by omega) (by omega)) (fun d h => hai d (List.mem_of_mem_drop (List.mem_of_mem_take h)))) (by simp) ?_; rintro v29 w4 hR4   -- t29 := call F38(t23, t28) : 22,23
    obtain ⟨bm, rfl, hbm, hM, hx4⟩ := hR4
    have hz4 := hx4.size
    have hE := hE.thenExt hx4
    have hU := hU.ext hx4
    have hS := hS.ext hx4
    have hltm := hM.lt
    obtain ⟨M, hM0⟩ : ∃ M, M = markF (ndsL l) ((all.drop k).take 1) := ⟨_, rfl⟩
    have hMl : M.length = l.length := by rw [hM0, markF_length, hnl]
    rw [← hM0] at hM
    refine WL.val (Y.assign rfl) (by decide) ?_   -- t8 := assign t29
    refine WL.nil ?_
    refine hK10 _ _ ?_; try clear hK10 K10
    refine CW.seq fun K11 hK11 => ?_
    refine CW.region ?_   -- region 7
    refine WL.val (Y.assign rfl) (by decide) ?_   -- t9 := assign c(0:i64)
    refine WL.nil ?_
    refine hK11 _ _ ?_; try clear hK11 K11
    refine CW.block ?_   -- block 2
    refine CW.loop (X := Nat) (fun x => [(0, .slice A l.length c), (5, .slice (some aB) all.length cb), (6, .slice (some ⟨ub, 0, none⟩) all.length all.length), (7, .int .i64 (k : Int)), (8, .slice (some ⟨bm, 0, none⟩) l.length l.length), (9, .int .i64 (x : Int))]) (fun x w0 => x ≤ all.length ∧ Blk w0 ub TBo (boolC (heS (ndsL l) all k (heU (ndsL l) all k) x)) ∧ Blk w0 bm TBo (boolC M) ∧ Sl w0 digC 32 (.slice (some aB) all.length cb) all ∧ Ext w w0 ∧ w4.heap.size ≤ w0.heap.size) (fun x => all.length - x) 0 (by repeat (first | exact Fr.le.nil | refine Fr.le.cons rfl ?_)) ⟨Nat.zero_le _, hU, hM, hS, hE, Nat.le_refl _⟩ ?_
    intro x w5 hl5
    clear hE hU hM hS
    obtain ⟨hjl, hU, hM, hS, hE, hz5⟩ := hl5
    refine CW.seq fun K12 hK12 => ?_
    refine CW.seq fun K13 hK13 => ?_
    refine CW.region ?_   -- region 8
    refine WL.val (Y.move rfl) (by decide) ?_   -- t30 := move t9
    refine WL.val (Y.move rfl) (by decide) ?_   -- t31 := move t5
    refine WL.val (Y.len_slice Try.underlying23 rfl) (by decide) ?_   -- t32 := call len(t31) : 23
    refine WL.val (Y.lss rfl rfl) (by decide) ?_   -- t33 := binOp lss 3 t30 t32 3
    refine WL.nil ?_
    refine hK13 _ _ ?_; try clear hK13 K13
    first | refine CW.condD rfl (fun ht14 => ?_) (fun ht14 => ?_) | refine CW.condND rfl (fun ht14 => ?_) (fun ht14 => ?_) | refine CW.condN rfl (fun ht14 => ?_) (fun ht14 => ?_) | refine CW.cond rfl (fun ht14 => ?_) (fun ht14 => ?_)
    · -- then
      refine CW.skip ?_
      refine hK12 _ _ ?_; try clear hK12 K12
      refine CW.seq fun K15 hK15 => ?_
      refine CW.block ?_   -- block 3
      obtain ⟨d, hdx⟩ : ∃ d, all[x]? = some d := ⟨_, List.getElem?_eq_getElem (by omega)⟩
      obtain ⟨a2, ha2, hmd⟩ := hS.at hdx
      cases ha2
      have hdi := hai d (List.mem_of_getElem? hdx)
      have hix := ixN_lt hdi
      obtain ⟨cm, hcm2⟩ : ∃ c, M[ixN (ndsL l) d]? = some c := ⟨_, List.getElem?_eq_getElem (by omega)⟩
      have hUl : (heS (ndsL l) all k (heU (ndsL l) all k) x).length = all.length := by rw [heS_length, heU_length]
      obtain ⟨cu, hcu⟩ : ∃ c, (heS (ndsL l) all k (heU (ndsL l) all k) x)[x]? = some c := ⟨_, List.getElem?_eq_getElem (by omega)⟩
      have hs : heS (ndsL l) all k (heU (ndsL l) all k) (x + 1) = (heS (ndsL l) all k (heU (ndsL l) all k) x).set x (cu || (!decide (x = k) && cm)) := by
        rw [heS, hcu, heB, hdx, ← hM0, Option.getD_some, bitAt, Option.getD_some, hcm2]; rfl
      refine CW.region ?_   -- region 10
      refine WL.val (Y.move rfl) (by decide) ?_   -- t36 := move t6
      refine WL.val (Y.move rfl) (by decide) ?_   -- t37 := move t9
      refine WL.val (Y.move rfl) (by decide) ?_   -- t38 := move t6
      refine WL.val (Y.move rfl) (by decide) ?_   -- t39 := move t9
      refine WL.val (Y.indexAddrN Try.underlying58 rfl rfl sz0_bool (by omega)) (by decide) ?_   -- t40 := indexAddr 58 t38 t39
      refine WL.val (Y.load1 Try.underlying4 rfl (hU.bcell hcu) rfl) (by decide) ?_   -- t41 := load 4 t40
      refine WL.val (Y.move rfl) (by decide) ?_   -- t42 := move t41
      first | refine WL.casesD (d := 42) rfl (fun hg42 => ?_) (fun hg42 => ?_) | refine WL.casesND (d := 42) rfl (fun hg42 => ?_) (fun hg42 => ?_) | refine WL.cases (d := 42) rfl (fun hg42 => ?_) (fun hg42 => ?_)
      · -- t42 = T
        refine WL.goff rfl rfl (by decide) ?_   -- t43 := move t9 [if 6=false]
        refine WL.goff rfl rfl (by decide) ?_   -- t44 := move t7 [if 6=false]
        refine WL.goff rfl rfl (by decide) ?_   -- t45 := binOp neq 3 t43 t44 3 [if 6=false]
        refine WL.goff rfl rfl (by decide) ?_   -- t46 := move t45 [if 6=false]
        refine WL.goffU rfl rfl (by decide) ?_   -- t47 := move t8 [if 10=true]
        refine WL.goffU rfl rfl (by decide) ?_   -- t48 := move t0 [if 10=true]
        refine WL.goffU rfl rfl (by decide) ?_   -- t49 := move t5 [if 10=true]
        refine WL.goffU rfl rfl (by decide) ?_   -- t50 := move t9 [if 10=true]
        refine WL.goffU rfl rfl (by decide) ?_   -- t51 := indexAddr 23 t49 t50 [if 10=true]
        refine WL.goffU rfl rfl (by decide) ?_   -- t52 := load 45 t51 [if 10=true]
        refine WL.goffU rfl rfl (by decide) ?_   -- t53 := call F26(t48, t52) : 22,45 [if 10=true]
        refine WL.goffU rfl rfl (by decide) ?_   -- t54 := indexAddr 58 t47 t53 [if 10=true]
        refine WL.goffU rfl rfl (by decide) ?_   -- t55 := load 4 t54 [if 10=true]
        refine WL.goff rfl rfl (by decide) ?_   -- t56 := pick t46 t55 c(false) [if 6=false]
        refine WL.val (Y.pick rfl rfl) (by decide) ?_   -- t57 := pick t42 c(true) t56
        refine WL.val (Y.indexAddrN Try.underlying58 rfl rfl sz0_bool (by omega)) (by decide) ?_   -- t58 := indexAddr 58 t36 t37
        refine WL.storeB rfl rfl rfl sz_bool hU hcu (fun w6 hc6 hB6_ => ?_)   -- _ := store 4 t58 t57
        have hz6 := hc6.size; have hE := hE.step hc6 (fun k h => by omega)
        skip
        refine WL.nil ?_
        refine hK15 _ _ ?_; try clear hK15 K15
        refine CW.region ?_   -- region 9
        refine WL.val (Y.move rfl) (by decide) ?_   -- t34 := move t9
        refine WL.val (Y.add rfl rfl ⟨by omega, by omega⟩) (by decide) ?_   -- t35 := binOp add 3 t34 c(1:i64) 3
        refine WL.val (Y.assign rfl) (by decide) ?_   -- t9 := assign t35
        refine WL.nil ?_
        refine ⟨x + 1, by show all.length - (x + 1) < all.length - x; omega, (by repeat (first | exact Fr.le.nil | refine Fr.le.cons rfl ?_)), by show x + 1 ≤ all.length; omega, ?_, hM.chg hc6 (fun h => by omega), hS.chg hc6 (fun k hk h => hnb k hk h), hE, by omega⟩
        show Blk _ _ _ (boolC (heS _ _ _ _ (x + 1)))
        have e : (cu || (!decide (x = k) && cm)) = true := by simp [hg42]
        rw [hs, e]
        exact hB6_
      · -- t42 = F
        refine WL.gval rfl rfl (Y.move rfl) (by decide) ?_   -- t43 := move t9 [if 6=false]
        refine WL.gval rfl rfl (Y.move rfl) (by decide) ?_   -- t44 := move t7 [if 6=false]
        refine WL.gval rfl rfl (Y.neq rfl rfl) (by decide) ?_   -- t45 := binOp neq 3 t43 t44 3 [if 6=false]
        refine WL.gval rfl rfl (Y.move rfl) (by decide) ?_   -- t46 := move t45 [if 6=false]
        first | refine WL.casesD (d := 46) rfl (fun hg46 => ?_) (fun hg46 => ?_) | refine WL.casesND (d := 46) rfl (fun hg46 => ?_) (fun hg46 => ?_) | refine WL.cases (d := 46) rfl (fun hg46 => ?_) (fun hg46 => ?_)
        · -- t46 = T
          refine WL.gval rfl rfl (Y.move rfl) (by decide) ?_   -- t47 := move t8 [if 10=true]
          refine WL.gval rfl rfl (Y.move rfl) (by decide) ?_   -- t48 := move t0 [if 10=true]
          refine WL.gval rfl rfl (Y.move rfl) (by decide) ?_   -- t49 := move t5 [if 10=true]
          refine WL.gval rfl rfl (Y.move rfl) (by decide) ?_   -- t50 := move t9 [if 10=true]
          refine WL.gval rfl rfl (Y.indexAddrN Try.underlying23 rfl rfl sz0_apiDigest (by omega)) (by decide) ?_   -- t51 := indexAddr 23 t49 t50 [if 10=true]
          refine WL.gval rfl rfl (Y.load Try.underlying45 rfl hmd (sz_apiDigest _) rfl) (by decide) ?_   -- t52 := load 45 t51 [if 10=true]
          refine WL.gcall rfl rfl Try.func26 rfl rfl rfl (rFindIn_any _ l d _ (hl0.ext hE) hdi) (by decide) ?_; rintro v w7 ⟨rfl, hx7⟩; have hz7 := hx7.size; have hE := hE.thenExt hx7   -- t53 := call F26(t48, t52) : 22,45 [if 10=true]
          refine WL.gval rfl rfl (Y.indexAddrN Try.underlying58 rfl rfl sz0_bool (by omega)) (by decide) ?_   -- t54 := indexAddr 58 t47 t53 [if 10=true]
          refine WL.gval rfl rfl (Y.load1 Try.underlying4 rfl ((hM.ext hx7).bcell hcm2) rfl) (by decide) ?_   -- t55 := load 4 t54 [if 10=true]
          refine WL.gval rfl rfl (Y.pick rfl rfl) (by decide) ?_   -- t56 := pick t46 t55 c(false) [if 6=false]
          refine WL.val (Y.pick rfl rfl) (by decide) ?_   -- t57 := pick t42 c(true) t56
          refine WL.val (Y.indexAddrN Try.underlying58 rfl rfl sz0_bool (by omega)) (by decide) ?_   -- t58 := indexAddr 58 t36 t37
          refine WL.storeB rfl rfl rfl sz_bool (hU.ext hx7) hcu (fun w8 hc8 hB8_ => ?_)   -- _ := store 4 t58 t57
          have hz8 := hc8.size; have hE := hE.step hc8 (fun k h => by omega)
          have hM := hM.ext hx7
          have hS := hS.ext hx7
          refine WL.nil ?_
          refine hK15 _ _ ?_; try clear hK15 K15
          refine CW.region ?_   -- region 9
          refine WL.val (Y.move rfl) (by decide) ?_   -- t34 := move t9
          refine WL.val (Y.add rfl rfl ⟨by omega, by omega⟩) (by decide) ?_   -- t35 := binOp add 3 t34 c(1:i64) 3
          refine WL.val (Y.assign rfl) (by decide) ?_   -- t9 := assign t35
          refine WL.nil ?_
          refine ⟨x + 1, by show all.length - (x + 1) < all.length - x; omega, (by repeat (first | exact Fr.le.nil | refine Fr.le.cons rfl ?_)), by show x + 1 ≤ all.length; omega, ?_, hM.chg hc8 (fun h => by omega), hS.chg hc8 (fun k hk h => hnb k hk h), hE, by omega⟩
          show Blk _ _ _ (boolC (heS _ _ _ _ (x + 1)))
          have e : (cu || (!decide (x = k) && cm)) = cm := by simp [hg42, show ¬ x = k by omega]
          rw [hs, e]
          exact hB8_
        · -- t46 = F
          refine WL.goff rfl rfl (by decide) ?_   -- t47 := move t8 [if 10=true]
          refine WL.goff rfl rfl (by decide) ?_   -- t48 := move t0 [if 10=true]
          refine WL.goff rfl rfl (by decide) ?_   -- t49 := move t5 [if 10=true]
          refine WL.goff rfl rfl (by decide) ?_   -- t50 := move t9 [if 10=true]
          refine WL.goff rfl rfl (by decide) ?_   -- t51 := indexAddr 23 t49 t50 [if 10=true]
          refine WL.goff rfl rfl (by decide) ?_   -- t52 := load 45 t51 [if 10=true]
          refine WL.goff rfl rfl (by decide) ?_   -- t53 := call F26(t48, t52) : 22,45 [if 10=true]
          refine WL.goff rfl rfl (by decide) ?_   -- t54 := indexAddr 58 t47 t53 [if 10=true]
          refine WL.goff rfl rfl (by decide) ?_   -- t55 := load 4 t54 [if 10=true]
          refine WL.gval rfl rfl (Y.pick rfl rfl) (by decide) ?_   -- t56 := pick t46 t55 c(false) [if 6=false]
          refine WL.val (Y.pick rfl rfl) (by decide) ?_   -- t57 := pick t42 c(true) t56
          refine WL.val (Y.indexAddrN Try.underlying58 rfl rfl sz0_bool (by omega)) (by decide) ?_   -- t58 := indexAddr 58 t36 t37
          refine WL.storeB rfl rfl rfl sz_bool hU hcu (fun w9 hc9 hB9_ => ?_)   -- _ := store 4 t58 t57
          have hz9 := hc9.size; have hE := hE.step hc9 (fun k h => by omega)
          skip
          refine WL.nil ?_
          refine hK15 _ _ ?_; try clear hK15 K15
          refine CW.region ?_   -- region 9
          refine WL.val (Y.move rfl) (by decide) ?_   -- t34 := move t9
          refine WL.val (Y.add rfl rfl ⟨by omega, by omega⟩) (by decide) ?_   -- t35 := binOp add 3 t34 c(1:i64) 3
          refine WL.val (Y.assign rfl) (by decide) ?_   -- t9 := assign t35
          refine WL.nil ?_
          refine ⟨x + 1, by show all.length - (x + 1) < all.length - x; omega, (by repeat (first | exact Fr.le.nil | refine Fr.le.cons rfl ?_)), by show x + 1 ≤ all.length; omega, ?_, hM.chg hc9 (fun h => by omega), hS.chg hc9 (fun k hk h => hnb k hk h), hE, by omega⟩
          show Blk _ _ _ (boolC (heS _ _ _ _ (x + 1)))
          have e : (cu || (!decide (x = k) && cm)) = false := by simp [hg42, show x = k by omega]
          rw [hs, e]
          exact hB9_
    -- else
    refine CW.exit ?_   -- exit 2
    refine hK9 _ _ ?_; try clear hK9 K9
    refine CW.region ?_   -- region 5
    refine WL.val (Y.move rfl) (by decide) ?_   -- t21 := move t7
    refine WL.val (Y.add rfl rfl ⟨by omega, by omega⟩) (by decide) ?_   -- t22 := binOp add 3 t21 c(1:i64) 3
    refine WL.val (Y.assign rfl) (by decide) ?_   -- t7 := assign t22
    refine WL.nil ?_
    have hx : x = all.length := by omega
    subst hx
    exact ⟨k + 1, by show all.length - (k + 1) < all.length - k; omega, (by repeat (first | exact Fr.le.nil | refine Fr.le.cons rfl ?_)), by show k + 1 ≤ all.length; omega, hU, hS, hE, by omega⟩
  -- else
  refine CW.exit ?_   -- exit 0
  refine hK4 _ _ ?_; try clear hK4 K4
  refine CW.seq fun K16 hK16 => ?_
  have hk9 : k = all.length := by omega
  subst hk9
  obtain ⟨U, hU0⟩ : ∃ U, U = heU (ndsL l) all all.length := ⟨_, rfl⟩
  have hUl : U.length = all.length := by rw [hU0, heU_length]
  rw [← hU0] at hU
  have hE3 := hE
  refine CW.region ?_   -- region 11
  refine WL.val (Y.assign rfl) (by decide) ?_   -- t10 := assign c(nilslice)
  refine WL.nil ?_
  refine hK16 _ _ ?_; try clear hK16 K16
  refine CW.seq fun K17 hK17 => ?_
  refine CW.seq fun K18 hK18 => ?_
  refine CW.region ?_   -- region 12
  refine WL.val (Y.assign rfl) (by decide) ?_   -- t11 := assign c(0:i64)
  refine WL.nil ?_
  refine hK18 _ _ ?_; try clear hK18 K18
  refine CW.block ?_   -- block 4
  refine CW.loop (X := Nat × Value) (fun x => [(5, .slice B all.length cb), (6, .slice (some ⟨ub, 0, none⟩) all.length all.length), (10, x.2), (11, .int .i64 (x.1 : Int))]) (fun x w0 => x.1 ≤ all.length ∧ Own w0 TDg 32 x.2 (flatD (selD (fun i => !pB U i) all x.1)) ∧ (∀ k, x.2.ownBlock = some k → w3.heap.size ≤ k) ∧ Blk w0 ub TBo (boolC U) ∧ Sl w0 digC 32 (.slice B all.length cb) all ∧ Ext w w0 ∧ w3.heap.size ≤ w0.heap.size) (fun x => all.length - x.1) (0, .slice none 0 0) (by repeat (first | exact Fr.le.nil | refine Fr.le.cons rfl ?_)) ⟨Nat.zero_le _, Own.nil, (fun k h => by simp [Value.ownBlock] at h), hU, hS, hE, Nat.le_refl _⟩ ?_
  intro x w10 hl10
  clear hE hU hS
  obtain ⟨i, v⟩ := x
  dsimp only at hl10 ⊢
  obtain ⟨hil, hO, hfu, hU, hS, hE, hz10⟩ := hl10
  have hol := selD_len (p := fun i => !pB U i) (all := all) (k := i)
  obtain ⟨B2, mb2, cb2, rfl⟩ := hO.lens
  have hlo := hO.lt
  have hzE := hE.size
  refine CW.seq fun K19 hK19 => ?_
  refine CW.seq fun K20 hK20 => ?_
  refine CW.region ?_   -- region 13
  refine WL.val (Y.move rfl) (by decide) ?_   -- t59 := move t11
  refine WL.val (Y.move rfl) (by decide) ?_   -- t60 := move t5
  refine WL.val (Y.len_slice Try.underlying23 rfl) (by decide) ?_   -- t61 := call len(t60) : 23
  refine WL.val (Y.lss rfl rfl) (by decide) ?_   -- t62 := binOp lss 3 t59 t61 3
  refine WL.nil ?_
  refine hK20 _ _ ?_; try clear hK20 K20
  first | refine CW.condD rfl (fun ht21 => ?_) (fun ht21 => ?_) | refine CW.condND rfl (fun ht21 => ?_) (fun ht21 => ?_) | refine CW.condN rfl (fun ht21 => ?_) (fun ht21 => ?_) | refine CW.cond rfl (fun ht21 => ?_) (fun ht21 => ?_)
  · -- then
    refine CW.skip ?_
    refine hK19 _ _ ?_; try clear hK19 K19
    obtain ⟨d, hdx⟩ : ∃ d, all[i]? = some d := ⟨_, List.getElem?_eq_getElem (by omega)⟩
    obtain ⟨aB, rfl, hmd⟩ := hS.at hdx
    obtain ⟨cu, hcu⟩ : ∃ c, U[i]? = some c := ⟨_, List.getElem?_eq_getElem (by omega)⟩
    have hsel := selD_at (p := fun i => !pB U i) hdx
    refine CW.seq_to (X := Value) (fun u => [(5, .slice (some aB) all.length cb), (6, .slice (some ⟨ub, 0, none⟩) all.length all.length), (10, u), (11, .int .i64 (i : Int))]) (fun u w0 => Own w0 TDg 32 u (flatD (selD (fun i => !pB U i) all (i + 1))) ∧ (∀ k, u.ownBlock = some k → w3.heap.size ≤ k) ∧ Blk w0 ub TBo (boolC U) ∧ Sl w0 digC 32 (.slice (some aB) all.length cb) all ∧ Ext w w0 ∧ w3.heap.size ≤ w0.heap.size) ?_ ?_
    · skip
      refine CW.block ?_   -- block 5
      refine CW.seq fun K23 hK23 => ?_
      refine CW.region ?_   -- region 15
      refine WL.val (Y.move rfl) (by decide) ?_   -- t65 := move t6
      refine WL.val (Y.move rfl) (by decide) ?_   -- t66 := move t11
      refine WL.val (Y.indexAddrN Try.underlying58 rfl rfl sz0_bool (by omega)) (by decide) ?_   -- t67 := indexAddr 58 t65 t66
      refine WL.val (Y.load1 Try.underlying4 rfl (hU.bcell hcu) rfl) (by decide) ?_   -- t68 := load 4 t67
      refine WL.val (Y.not rfl) (by decide) ?_   -- t69 := unOp not 4 t68
      refine WL.nil ?_
      refine hK23 _ _ ?_; try clear hK23 K23
      first | refine CW.condD rfl (fun ht24 => ?_) (fun ht24 => ?_) | refine CW.condND rfl (fun ht24 => ?_) (fun ht24 => ?_) | refine CW.condN rfl (fun ht24 => ?_) (fun ht24 => ?_) | refine CW.cond rfl (fun ht24 => ?_) (fun ht24 => ?_)
      · -- then
        refine CW.region ?_   -- region 16
        refine WL.val (Y.move rfl) (by decide) ?_   -- t70 := move t10
        refine WL.val (Y.move rfl) (by decide) ?_   -- t71 := move t5
        refine WL.val (Y.move rfl) (by decide) ?_   -- t72 := move t11
        refine WL.val (Y.indexAddrN Try.underlying23 rfl rfl sz0_apiDigest (by omega)) (by decide) ?_   -- t73 := indexAddr 23 t71 t72
        refine WL.val (Y.load Try.underlying45 rfl hmd (sz_apiDigest _) rfl) (by decide) ?_   -- t74 := load 45 t73
        refine WL.st (St.buildSlice rfl (bs1_dig _)) (by decide) fun v75 w11 hR11 => ?_   -- t75 := buildSlice 23 1 [(0,t74)]
        obtain ⟨gg, rfl, hgg, hBg, hx11⟩ := hR11
        have hz11 := hx11.size
        have hE := hE.thenExt hx11
        have hU := hU.ext hx11
        have hS := hS.ext hx11
        refine WL.st (St.append Try.underlying23 Try.underlying23 ai_dig rfl rfl (hO.ext hx11) (Src.one hBg (digC_length _)) one_digC (by rw [flat_length digC_length]; omega)) (by decide) fun v76 w12 hR12 => ?_   -- t76 := call append(t70, t75) : 23,23
        obtain ⟨hO12, hc12, hf12⟩ := hR12
        have hz12 := hc12.size
        have hE := hE.step hc12 (fun k h => by have := hfu k h; omega)
        have hf12 : ∀ k, v76.ownBlock = some k → w3.heap.size ≤ k := by
          rcases hf12 with h | h
          · intro k hk; rw [h] at hk; exact hfu k hk
          · intro k hk; have := h k hk; omega
        have hU := hU.chg hc12 (fun h => by have := hfu _ h; omega)
        have hS := hS.chg hc12 (fun k hk h => by have := hfu k h; have := hlt1 k hk; omega)
        refine WL.val (Y.assign rfl) (by decide) ?_   -- t10 := assign t76
        refine WL.nil ?_
        exact ⟨v76, (by repeat (first | exact Fr.le.nil | refine Fr.le.cons rfl ?_)), by rw [hsel, if_pos (by simp [pB, hcu]; simp_all)]; simpa [flatD] using hO12, hf12, hU, hS, hE, by omega⟩
      -- else
      refine CW.skip ?_
      exact ⟨.slice B2 mb2 cb2, (by repeat (first | exact Fr.le.nil | refine Fr.le.cons rfl ?_)), by rw [hsel, if_neg (by simp [pB, hcu]; simp_all)]; exact hO, hfu, hU, hS, hE, by omega⟩
    rintro u w13 hj13
    clear hE hO hfu hU hS
    obtain ⟨hO, hfu, hU, hS, hE, hz14⟩ := hj13
    refine CW.region ?_   -- region 14
    refine WL.val (Y.move rfl) (by decide) ?_   -- t63 := move t11
    refine WL.val (Y.add rfl rfl ⟨by omega, by omega⟩) (by decide) ?_   -- t64 := binOp add 3 t63 c(1:i64) 3
    refine WL.val (Y.assign rfl) (by decide) ?_   -- t11 := assign t64
    refine WL.nil ?_
    exact ⟨(i + 1, u), by show all.length - (i + 1) < all.length - i; omega, (by repeat (first | exact Fr.le.nil | refine Fr.le.cons rfl ?_)), by show i + 1 ≤ all.length; omega, hO, hfu, hU, hS, hE, by omega⟩
  -- else
  refine CW.exit ?_   -- exit 4
  refine hK17 _ _ ?_; try clear hK17 K17
  refine CW.seq fun K25 hK25 => ?_
  refine CW.region ?_   -- region 17
  refine WL.val (Y.move rfl) (by decide) ?_   -- t77 := move t10
  refine WL.val (Y.assign rfl) (by decide) ?_   -- t4 := assign t77
  refine WL.nil ?_
  refine hK25 _ _ ?_; try clear hK25 K25
  refine CW.ret ⟨_, rfl, ?_⟩
  have hi2 : i = all.length := by omega
  subst hi2
  exact ⟨by rw [headsR, ← hall, ← hU0]; exact hO, fun k hk => by have := hfu k hk; have := hE3.size; omega, hE⟩
end Go.Proofs.Ytecolkngbcgmcaa
