/- slices.DeleteFunc at digests of our own; graph.Order, Lacks, walked. No condition. -/
import Derived.Test.YtecolkngbcgmcaaGu
import Derived.Test.YtecolkngbcgmcaaGk
set_option linter.unusedSimpArgs false
set_option linter.unusedVariables false
namespace Go.Fw
open Go.RowKit
theorem Own.cut {w : World} {e : TypeId} {k : Nat} {A : Option Addr} {n c i : Nat} {pre post : List Value} (h : Own w e k (.slice A n c) (pre ++ post)) (hl : pre.length = i * k) (hi : i ≤ n) : Own w e k (.slice A i c) pre := by
  rcases h with ⟨h, hx⟩ | ⟨g, n', c', rest, fz, h, hh, hxl, hnc, hcm, hal, hfz⟩
  · cases h
    obtain ⟨rfl, rfl⟩ := List.append_eq_nil_iff.1 hx
    exact .inl ⟨by rw [show i = 0 by omega], rfl⟩
  · cases h
    exact .inr ⟨g, i, c, post ++ rest, fz, rfl, by rw [← List.append_assoc]; exact hh, hl, by omega, hcm, by rw [← List.append_assoc]; exact hal, hfz⟩
section
variable {P : Program} {n : NN} {fr : Fr} {w : World} {ty : TypeId} {e : TypeId}
theorem Su.clearO {t : TypeId} {x : Operand} {g k m c m' c' : Nat} {z : Value} {A : Addr} {pre old : List Value} (hT : P.underlying t = some (.slice e)) (hz : ∀ w, (zeroValue e).run P w = .ok z w) (hzs : z.cells.size = k) (h1 : ∀ u ∈ z.cells, u.oneCell' = true)
    (hx : ev fr x = some (.slice (some A) m' c')) (hA : A = ⟨g, pre.length, none⟩) (hO : Own w e k (.slice (some ⟨g, 0, none⟩) m c) (pre ++ old)) (hl : old.length = m' * k) (h0 : m' ≠ 0) :
    Su P n fr (.call { callee := .builtin .clear, args := #[x], argTypes := #[t] }) ty w (fun w' => ∃ zs, zs.length = old.length ∧ Own w' e k (.slice (some ⟨g, 0, none⟩) m c) (pre ++ zs) ∧ Chg (· = g) w w') := fun a o' ho hty ha => by
  have hzl : (Builtin.zeroCells z.cells m').toList.length = old.length := by rw [Array.length_toList, size_zeroCells, hzs, hl]
  obtain ⟨w', hst, hc, hO'⟩ := Own.store (P := P) (post := []) (old := old) (new := (Builtin.zeroCells z.cells m').toList) (by simpa using hO) hzl (fun u hu => by
    rw [Array.mem_toList_iff] at hu
    simp only [Builtin.zeroCells, Array.mem_map, Array.mem_range] at hu
    obtain ⟨i, hi, rfl⟩ := hu
    have hpos : 0 < z.cells.size := by
      rcases Nat.eq_zero_or_pos z.cells.size with h | h
      · rw [h] at hi; simp at hi
      · exact h
    have hlt : i % z.cells.size < z.cells.size := Nat.mod_lt _ hpos
    rw [getElem!_pos z.cells _ hlt]
    exact h1 _ (Array.getElem_mem hlt))
  obtain ⟨m2, rfl⟩ := Nat.exists_eq_succ_of_ne_zero h0
  refine ⟨w', .inr ⟨.tuple #[], ?_⟩, _, hzl, by simpa using hO', hc⟩
  simp [execOp, ho, resolve, invoke, builtin, ha.ev hx, Builtin.clear_, run_underlying hT, hz, hA, hst]
theorem St.alloc1 {t : TypeId} {z : Value} (hI : (P.info? t).map (fun i => i.zero) = some (some z)) (hz : z.cells = #[z]) : St P n fr (.alloc t) ty w (fun v w' => ∃ g, v = .pointer (some ⟨g, 0, none⟩) ∧ w.heap.size ≤ g ∧ Blk w' g t [z] ∧ Ext w w') := fun a o' ho hty ha => by
  obtain ⟨i, hi, hp⟩ := Option.map_eq_some_iff.1 hI
  refine ⟨_, w.alloc (.cells [z].toArray t), ?_, w.heap.size, rfl, Nat.le_refl _, Blk.new w t [z], Chg.alloc _⟩
  simp [execOp, ho, Instr.alloc, zeroValue, typeInfo, hi, hp, newVar, newRow, hz]
end
end Go.Fw
namespace Go.Pl
open Go.Fw
/-- What is kept of these. -/
abbrev keptD (p : Dig → Bool) (l : List Dig) : List Dig := l.filter fun d => !p d
theorem filter_none {p : Dig → Bool} {l : List Dig} (h : ∀ d ∈ l, p d = false) : keptD p l = l := List.filter_eq_self.2 fun d hd => by simp [h d hd]
theorem kept_take {p : Dig → Bool} {l : List Dig} {j : Nat} {d : Dig} (hd : l[j]? = some d) : keptD p (l.take (j + 1)) = if p d = true then keptD p (l.take j) else keptD p (l.take j) ++ [d] := by
  rw [take_succ hd, keptD, List.filter_append]
  cases h : p d <;> simp [h]
/-- The list as it is being written over: the first i are kept ones, those from j on are not looked at yet. -/
structure Mid (p : Dig → Bool) (l cur : List Dig) (i j : Nat) : Prop where
  len : cur.length = l.length
  lt : i < j
  le : j ≤ l.length
  front : cur.take i = keptD p (l.take j)
  back : cur.drop j = l.drop j
theorem Mid.il {p : Dig → Bool} {l cur : List Dig} {i j : Nat} (h : Mid p l cur i j) : (keptD p (l.take j)).length = i := by
  rw [← h.front, List.length_take, h.len]
  have := h.lt; have := h.le; omega
theorem Mid.at {p : Dig → Bool} {l cur : List Dig} {i j : Nat} (h : Mid p l cur i j) {d : Dig} (hd : l[j]? = some d) : cur[j]? = some d := by
  have h1 : (cur.drop j)[0]? = (l.drop j)[0]? := by rw [h.back]
  rw [List.getElem?_drop, List.getElem?_drop, Nat.add_zero] at h1
  rw [h1, hd]
theorem Mid.drops {p : Dig → Bool} {l cur : List Dig} {i j : Nat} (h : Mid p l cur i j) {d : Dig} (hd : l[j]? = some d) (hp : p d = true) : Mid p l cur i (j + 1) := by
  have hlt := (List.getElem?_eq_some_iff.1 hd).1
  refine ⟨h.len, by have := h.lt; omega, by omega, by rw [kept_take hd, if_pos hp, h.front], ?_⟩
  rw [← List.drop_drop, h.back, List.drop_drop]
theorem Mid.keeps {p : Dig → Bool} {l cur : List Dig} {i j : Nat} (h : Mid p l cur i j) {d : Dig} (hd : l[j]? = some d) (hp : ¬ p d = true) : Mid p l (cur.set i d) (i + 1) (j + 1) := by
  have hlt := (List.getElem?_eq_some_iff.1 hd).1
  have hi := h.lt
  have hcl := h.len
  refine ⟨by rw [List.length_set]; exact hcl, by omega, by omega, ?_, ?_⟩
  · rw [kept_take hd, if_neg hp, ← h.front, take_succ (i := i) (x := d) (by rw [List.getElem?_set_self (by omega)]), List.take_set_of_le (Nat.le_refl _)]
  · rw [List.drop_set_of_lt (by omega), ← List.drop_drop, h.back, List.drop_drop]
theorem Mid.first {p : Dig → Bool} {l : List Dig} {k : Nat} {d : Dig} (hd : l[k]? = some d) (hp : p d = true) (hno : ∀ i d, i < k → l[i]? = some d → p d = false) : Mid p l l k (k + 1) := by
  have hlt := (List.getElem?_eq_some_iff.1 hd).1
  refine ⟨rfl, by omega, by omega, ?_, rfl⟩
  rw [kept_take hd, if_pos hp, filter_none]
  intro x hx
  obtain ⟨i, hi⟩ := List.mem_iff_getElem?.1 hx
  rw [List.getElem?_take] at hi
  split at hi
  · exact hno i x (by assumption) hi
  · cases hi
end Go.Pl
namespace Go.Proofs.Ytecolkngbcgmcaa
open Go.RowKit Go.Fw Go.Pl Go.Sort
theorem flatD_app (a b : List Dig) : flatD (a ++ b) = flatD a ++ flatD b := by simp [flatD]
theorem zero_dig (w : World) : (zeroValue 45).run Try.prog w = .ok (digV Dig.zero) w := by
  have h : (Try.prog.info? 45).map (fun i => i.zero) = some (some (digV Dig.zero)) := by kernel_rfl
  cases hi : Try.prog.info? 45 with
  | none => simp [hi] at h
  | some i => simp [hi] at h; simp [zeroValue, typeInfo, hi, h]
theorem flat_set {l : List Dig} {i : Nat} {d : Dig} {c : Dig} (hi : l[i]? = some c) : flatD l = flatD (l.take i) ++ digC c ++ flatD (l.drop (i + 1)) ∧ flatD (l.set i d) = flatD (l.take i) ++ digC d ++ flatD (l.drop (i + 1)) := by
  obtain ⟨hlt, hc⟩ := List.getElem?_eq_some_iff.1 hi
  have e1 : l = l.take i ++ [c] ++ l.drop (i + 1) := by
    conv => lhs; rw [← List.take_append_drop i l, List.drop_eq_getElem_cons hlt, hc]
    simp
  have e2 : l.set i d = l.take i ++ [d] ++ l.drop (i + 1) := by
    rw [List.set_eq_take_append_cons_drop, if_pos hlt]
    simp
  constructor
  · conv => lhs; rw [e1]
    simp [flatD]
  · rw [e2]; simp [flatD]

set_option maxHeartbeats 1000000 in
theorem deleteFunc_any {f : Nat} {fn : Func} (p : Dig → Bool) (cap : List Value) (A : Option Addr) (m c : Nat) (l : List Dig) (w : World) (hf : Try.prog.funcs[f]? = some fn) (hb : fn.body.isNone = false) (hn : (fn.name == "runtime.NumGoroutine") = false) (hC : ∀ (d : Dig) (w1 : World), d ∈ l → Chg (fun k => (Value.slice A m c).ownBlock = some k) w w1 → Calls Try.prog f (digV d :: cap).toArray w1 (Ret fun v w2 => v = .bool (p d) ∧ Ext w1 w2)) (hO : Own w TDg 32 (.slice A m c) (flatD l)) : Calls Try.prog 43 #[.slice A m c, .func (.func f) #[] cap.toArray] w (Ret fun v w' => ∃ i, v = .slice A i c ∧ Own w' TDg 32 v (flatD (keptD p l)) ∧ Chg (fun k => (Value.slice A m c).ownBlock = some k) w w') := by
  refine calls_of_CW 42 [4] [(0, .slice A m c), (1, .func (.func f) #[] cap.toArray)] Try.func43 rfl rfl rfl (by simp) args2 ?_
  have hE : Ext w w := Chg.refl
  refine CW.seq fun K1 hK1 => ?_
  refine CW.region ?_   -- region 0
  refine WL.val (Y.assign rfl) (by decide) ?_   -- t4 := assign c(nilslice)
  refine WL.nil ?_
  refine hK1 _ _ ?_; try clear hK1 K1
  refine CW.seq fun K2 hK2 => ?_
  refine CW.region ?_   -- region 1
  refine WL.val (Y.move rfl) (by decide) ?_   -- t8 := move t0
  refine WL.val (Y.move rfl) (by decide) ?_   -- t9 := move t1
  refine WL.call Try.func55 rfl rfl rfl (indexFunc_any p cap _ l _ hf hb hn (fun d w1 hd hx => hC d w1 hd hx.chg) (hO.sl digC_length (by decide))) (by simp) ?_; rintro v10 w1 hR1   -- t10 := call F55(t8, t9) : 23,71
  obtain ⟨k, rfl, hk, hx1⟩ := hR1
  have hz1 := hx1.size
  have hE := hE.thenExt hx1
  have hO := hO.ext hx1
  refine WL.val (Y.assign rfl) (by decide) ?_   -- t5 := assign t10
  refine WL.nil ?_
  refine hK2 _ _ ?_; try clear hK2 K2
  refine CW.seq fun K3 hK3 => ?_
  refine CW.seq fun K4 hK4 => ?_
  refine CW.region ?_   -- region 2
  refine WL.val (Y.move rfl) (by decide) ?_   -- t11 := move t5
  refine WL.val (Y.eql rfl rfl) (by decide) ?_   -- t12 := binOp eql 3 t11 c(-1:i64) 3
  refine WL.nil ?_
  refine hK4 _ _ ?_; try clear hK4 K4
  first | refine CW.condD rfl (fun ht5 => ?_) (fun ht5 => ?_) | refine CW.condND rfl (fun ht5 => ?_) (fun ht5 => ?_) | refine CW.condN rfl (fun ht5 => ?_) (fun ht5 => ?_) | refine CW.cond rfl (fun ht5 => ?_) (fun ht5 => ?_)
  · -- then
    refine CW.seq fun K6 hK6 => ?_
    refine CW.region ?_   -- region 3
    refine WL.val (Y.move rfl) (by decide) ?_   -- t13 := move t0
    refine WL.val (Y.assign rfl) (by decide) ?_   -- t4 := assign t13
    refine WL.nil ?_
    refine hK6 _ _ ?_; try clear hK6 K6
    refine CW.ret ⟨_, rfl, ?_⟩
    have hno : ∀ d ∈ l, p d = false := by
      rcases hk with ⟨_, h⟩ | ⟨j, d, rfl, _⟩
      · exact h
      · omega
    exact ⟨m, rfl, by rw [filter_none hno]; exact hO, Ext.chg hE⟩
  -- else
  refine CW.skip ?_
  refine hK3 _ _ ?_; try clear hK3 K3
  obtain ⟨j0, d0, rfl, hd0, hp0, hno0⟩ : ∃ (j : Nat) (d : Dig), k = (j : Int) ∧ l[j]? = some d ∧ p d = true ∧ ∀ i d, i < j → l[i]? = some d → p d = false := by
    rcases hk with ⟨h, _⟩ | h
    · exact absurd h ht5
    · exact h
  have hj0 := (List.getElem?_eq_some_iff.1 hd0).1
  obtain ⟨hlen, hmc, hcm⟩ := hO.len digC_length (by decide)
  unfold maxLen at hcm
  obtain ⟨g, rfl, hgl⟩ := hO.head (fun h => by
    have h2 := congrArg List.length h
    rw [flat_length digC_length, List.length_nil] at h2
    omega)
  have hE : Chg (fun k => k = g) w w1 := Ext.chg hE
  refine CW.seq fun K7 hK7 => ?_
  refine CW.seq fun K8 hK8 => ?_
  refine CW.region ?_   -- region 4
  refine WL.val (Y.move rfl) (by decide) ?_   -- t14 := move t5
  refine WL.val (Y.add rfl rfl ⟨by omega, by omega⟩) (by decide) ?_   -- t15 := binOp add 3 t14 c(1:i64) 3
  refine WL.val (Y.assign rfl) (by decide) ?_   -- t6 := assign t15
  refine WL.nil ?_
  refine hK8 _ _ ?_; try clear hK8 K8
  refine CW.block ?_   -- block 0
  refine CW.loop (X := Nat × Nat × List Dig) (fun x => [(0, .slice (some ⟨g, 0, none⟩) m c), (1, .func (.func f) #[] cap.toArray), (5, .int .i64 (x.1 : Int)), (6, .int .i64 (x.2.1 : Int))]) (fun x w0 => Mid p l x.2.2 x.1 x.2.1 ∧ Own w0 TDg 32 (.slice (some ⟨g, 0, none⟩) m c) (flatD x.2.2) ∧ Chg (fun k => k = g) w w0) (fun x => m - x.2.1) (j0, j0 + 1, l) (by repeat (first | exact Fr.le.nil | refine Fr.le.cons rfl ?_)) ⟨Mid.first hd0 hp0 hno0, hO, hE⟩ ?_
  intro x w2 hl2
  obtain ⟨i, j, cur⟩ := x
  dsimp only at hl2 ⊢
  obtain ⟨hm, hO, hE⟩ := hl2
  have hil := hm.lt
  have hjl := hm.le
  have hcl := hm.len
  have hgo := hO.lt g rfl
  refine CW.seq fun K9 hK9 => ?_
  refine CW.seq fun K10 hK10 => ?_
  refine CW.region ?_   -- region 5
  refine WL.val (Y.move rfl) (by decide) ?_   -- t16 := move t6
  refine WL.val (Y.move rfl) (by decide) ?_   -- t17 := move t0
  refine WL.val (Y.len_slice Try.underlying23 rfl) (by decide) ?_   -- t18 := call len(t17) : 23
  refine WL.val (Y.lss rfl rfl) (by decide) ?_   -- t19 := binOp lss 3 t16 t18 3
  refine WL.nil ?_
  refine hK10 _ _ ?_; try clear hK10 K10
  first | refine CW.condD rfl (fun ht11 => ?_) (fun ht11 => ?_) | refine CW.condND rfl (fun ht11 => ?_) (fun ht11 => ?_) | refine CW.condN rfl (fun ht11 => ?_) (fun ht11 => ?_) | refine CW.cond rfl (fun ht11 => ?_) (fun ht11 => ?_)
  · -- then
    refine CW.skip ?_
    refine hK9 _ _ ?_; try clear hK9 K9
    refine CW.seq_to (X := Nat × List Dig) (fun u => [(0, .slice (some ⟨g, 0, none⟩) m c), (1, .func (.func f) #[] cap.toArray), (5, .int .i64 (u.1 : Int)), (6, .int .i64 (j : Int))]) (fun u w0 => Mid p l u.2 u.1 (j + 1) ∧ Own w0 TDg 32 (.slice (some ⟨g, 0, none⟩) m c) (flatD u.2) ∧ Chg (fun k => k = g) w w0) ?_ ?_
    · skip
      refine CW.block ?_   -- block 1
      refine CW.seq fun K13 hK13 => ?_
      obtain ⟨d, hd⟩ : ∃ d, l[j]? = some d := ⟨_, List.getElem?_eq_getElem (by omega)⟩
      have hcd := hm.at hd
      obtain ⟨a, ha, hma⟩ := (hO.sl digC_length (by decide)).at hcd
      cases ha
      obtain ⟨ci, hci⟩ : ∃ ci, cur[i]? = some ci := ⟨_, List.getElem?_eq_getElem (by omega)⟩
      refine CW.region ?_   -- region 7
      refine WL.val (Y.move rfl) (by decide) ?_   -- t22 := move t0
      refine WL.val (Y.move rfl) (by decide) ?_   -- t23 := move t6
      refine WL.val (Y.indexAddrN Try.underlying23 rfl rfl sz0_apiDigest (by omega)) (by decide) ?_   -- t24 := indexAddr 23 t22 t23
      refine WL.val (Y.load Try.underlying45 rfl hma (sz_apiDigest _) rfl) (by decide) ?_   -- t25 := load 45 t24
      refine as_apiDigest rfl (by simp) (by decide) fun g7 w3 hx3 hg7 hB7 => ?_   -- alloc 45; store 45 t7 t25
      have hlt7 := hB7.lt; have hz3 := hx3.size
      have hM7 := hB7.mem; have hz3 := hx3.size; have hE := hE.thenExt hx3
      refine WL.nil ?_
      refine hK13 _ _ ?_; try clear hK13 K13
      refine CW.seq fun K14 hK14 => ?_
      refine CW.region ?_   -- region 8
      refine WL.val (Y.move rfl) (by decide) ?_   -- t26 := move t1
      refine WL.val (Y.load Try.underlying45 rfl hB7.mem (sz_apiDigest _) rfl) (by decide) ?_   -- t27 := load 45 t7
      refine WL.callV rfl hf hb hn rfl (hC d _ (List.mem_of_getElem? hd) (hE.mono fun k _ h => by rw [h]; rfl)) (by simp) ?_; rintro v28 w4 hR4   -- t28 := call t26(t27) : 45
      obtain ⟨rfl, hx4⟩ := hR4
      have hz4 := hx4.size
      have hE := hE.thenExt hx4
      have hB7 := hB7.ext hx4
      have hO := (hO.ext hx3).ext hx4
      refine WL.val (Y.not rfl) (by decide) ?_   -- t29 := unOp not 4 t28
      refine WL.nil ?_
      refine hK14 _ _ ?_; try clear hK14 K14
      first | refine CW.condD rfl (fun ht15 => ?_) (fun ht15 => ?_) | refine CW.condND rfl (fun ht15 => ?_) (fun ht15 => ?_) | refine CW.condN rfl (fun ht15 => ?_) (fun ht15 => ?_) | refine CW.cond rfl (fun ht15 => ?_) (fun ht15 => ?_)
      · -- then
        refine CW.seq fun K16 hK16 => ?_
        refine CW.region ?_   -- region 9
        refine WL.val (Y.move rfl) (by decide) ?_   -- t30 := move t0
        refine WL.val (Y.move rfl) (by decide) ?_   -- t31 := move t5
        refine WL.val (Y.load Try.underlying45 rfl hB7.mem (sz_apiDigest _) rfl) (by decide) ?_   -- t32 := load 45 t7
        refine WL.val (Y.indexAddrN Try.underlying23 rfl rfl sz0_apiDigest (by omega)) (by decide) ?_   -- t33 := indexAddr 23 t30 t31
        refine WL.storeO (g := g) (pre := flatD (cur.take i)) (old := digC ci) (post := flatD (cur.drop (i + 1))) (new := digC d) rfl (by rw [add_zero', flat_length digC_length, List.length_take, Nat.min_eq_left (by omega)]) rfl rfl (sz_apiDigest _) (by rw [← (flat_set (d := d) hci).1]; exact hO) (by first | rfl | (simp [digC_length, opC_length]; done) | (simp only [digC_length, opC_length]; omega)) (one_digC) (fun w5 hc5 hB5_ => ?_)   -- _ := store 45 t33 t32
        have hz5 := hc5.size; have hE := hE.stepO hc5 (fun k h => (by show (k = g) ∨ _; omega)); have hB7 := hB7.chg hc5 (fun h => by omega)
        have hO : Own w5 TDg 32 (.slice (some ⟨g, 0, none⟩) m c) (flatD (cur.set i d)) := by rw [(flat_set (d := d) hci).2]; exact hB5_
        refine WL.nil ?_
        refine hK16 _ _ ?_; try clear hK16 K16
        refine CW.region ?_   -- region 10
        refine WL.val (Y.move rfl) (by decide) ?_   -- t34 := move t5
        refine WL.val (Y.add rfl rfl ⟨by omega, by omega⟩) (by decide) ?_   -- t35 := binOp add 3 t34 c(1:i64) 3
        refine WL.val (Y.assign rfl) (by decide) ?_   -- t5 := assign t35
        refine WL.nil ?_
        exact ⟨(i + 1, cur.set i d), (by repeat (first | exact Fr.le.nil | refine Fr.le.cons rfl ?_)), hm.keeps hd (by simp_all), hO, hE⟩
      -- else
      refine CW.skip ?_
      exact ⟨(i, cur), (by repeat (first | exact Fr.le.nil | refine Fr.le.cons rfl ?_)), hm.drops hd (by simp_all), hO, hE⟩
    rintro u w6 hj6
    obtain ⟨i2, cur2⟩ := u
    dsimp only at hj6 ⊢
    obtain ⟨hm2, hO, hE⟩ := hj6
    refine CW.region ?_   -- region 6
    refine WL.val (Y.move rfl) (by decide) ?_   -- t20 := move t6
    refine WL.val (Y.add rfl rfl ⟨by omega, by omega⟩) (by decide) ?_   -- t21 := binOp add 3 t20 c(1:i64) 3
    refine WL.val (Y.assign rfl) (by decide) ?_   -- t6 := assign t21
    refine WL.nil ?_
    exact ⟨(i2, j + 1, cur2), by show m - (j + 1) < m - j; omega, (by repeat (first | exact Fr.le.nil | refine Fr.le.cons rfl ?_)), hm2, hO, hE⟩
  -- else
  refine CW.exit ?_   -- exit 0
  refine hK7 _ _ ?_; try clear hK7 K7
  refine CW.seq fun K17 hK17 => ?_
  refine CW.region ?_   -- region 11
  refine WL.val (Y.move rfl) (by decide) ?_   -- t36 := move t0
  refine WL.val (Y.move rfl) (by decide) ?_   -- t37 := move t5
  refine WL.val (Y.slice_lo Try.underlying23 rfl rfl sz0_apiDigest rfl (by omega)) (by decide) ?_   -- t38
  rw [if_neg (show ¬ c = i by omega)]
  dsimp only [Option.map]
  refine WL.su (Su.clearO (pre := flatD (cur.take i)) (old := flatD (cur.drop i)) Try.underlying23 zero_dig (by rw [show (digV Dig.zero).cells = (digC Dig.zero).toArray from rfl, List.size_toArray, digC_length]) (fun u hu => one_digC (d := Dig.zero) u (by have h : u ∈ (digC Dig.zero).toArray := hu; simpa using h)) rfl (by rw [add_zero', flat_length digC_length, List.length_take, Nat.min_eq_left (by omega)]) (by rw [← flatD_app, List.take_append_drop]; exact hO) (by rw [flat_length digC_length, List.length_drop]; congr 1; omega) (by omega)) fun w7 hR7 => ?_   -- _ := call clear(t38) : 23
  obtain ⟨zs, hzl, hO7, hc7⟩ := hR7
  have hz7 := hc7.size
  have hE := hE.stepO hc7 (fun k h => .inl h)
  refine WL.nil ?_
  refine hK17 _ _ ?_; try clear hK17 K17
  refine CW.seq fun K18 hK18 => ?_
  refine CW.region ?_   -- region 12
  refine WL.val (Y.move rfl) (by decide) ?_   -- t39 := move t0
  refine WL.val (Y.move rfl) (by decide) ?_   -- t40 := move t5
  refine WL.val (Y.slice_hi Try.underlying23 rfl rfl sz0_apiDigest rfl (by omega)) (by decide) ?_   -- t41 := slice 23 t39 none t40 none
  refine WL.val (Y.assign rfl) (by decide) ?_   -- t4 := assign t41
  refine WL.nil ?_
  refine hK18 _ _ ?_; try clear hK18 K18
  refine CW.ret ⟨_, rfl, ?_⟩
  have hjm : j = l.length := by omega
  have hfr := hm.front
  rw [hjm, List.take_length] at hfr
  exact ⟨i, rfl, by rw [← hfr]; exact hO7.cut (by rw [flat_length digC_length, List.length_take, Nat.min_eq_left (by omega)]) (by omega), hE.mono fun k _ h => by rw [h]; rfl⟩
end Go.Proofs.Ytecolkngbcgmcaa
