/- A store gone over: All and its closure, walked: what the iterator promises. No condition. -/
import Derived.Test.YtkbmlnkoejlgmaaDoorXg
set_option linter.unusedSimpArgs false
set_option linter.unusedVariables false
namespace Go.Proofs.YtkbmlnkoejlgmaaDoor
open Go.RowKit Go.Fw Go.Pl Go.Sort
abbrev TU8 : TypeId := 5
abbrev TSl8 : TypeId := 26
theorem ai_sl8 : AppInfo Tryd.prog TSl8 1 24 := by
  have h : (Tryd.prog.info? TSl8).map (fun i => (i.zero, i.size, i.bytes)) = some (some (.slice none 0 0), 1, 24) := by kernel_rfl
  cases hi : Tryd.prog.info? TSl8 with
  | none => simp [hi] at h
  | some i => simp [hi] at h; exact ⟨i, .slice none 0 0, hi, h.1, h.2.1, by simp [Value.cells], h.2.2, by decide, by decide⟩
theorem nilGet {α : Type} {j : Nat} {v : α} (h : ([] : List α)[j]? = some v) : False := by simp at h
theorem nilMem {α : Type} {v : α} (h : v ∈ ([] : List α)) : False := by simp at h
/-- What a walk over a store finds out ahead of the first round. -/
structure SA where
  lo : Nat
  hi : Nat
  bs : List Value
def apartV (bs : List Value) : Prop := ∀ (i j : Nat) (u v : Value) (k : Nat), bs[i]? = some u → bs[j]? = some v → u.ownBlock = some k → v.ownBlock = some k → i = j
theorem apartV.app {bs : List Value} {v : Value} {m : Nat} (h : apartV bs) (h1 : ∀ u ∈ bs, ∀ k, u.ownBlock = some k → k < m) (h2 : ∀ k, v.ownBlock = some k → m ≤ k) : apartV (bs ++ [v]) := by
  intro i j a b k hi hj ha hb
  have hil := (List.getElem?_eq_some_iff.1 hi).1
  have hjl := (List.getElem?_eq_some_iff.1 hj).1
  simp only [List.length_append, List.length_singleton] at hil hjl
  by_cases ei : i < bs.length <;> by_cases ej : j < bs.length
  · rw [List.getElem?_append_left ei] at hi
    rw [List.getElem?_append_left ej] at hj
    exact h i j a b k hi hj ha hb
  · rw [List.getElem?_append_left ei] at hi
    rw [List.getElem?_append_right (by omega), show j - bs.length = 0 by omega] at hj
    simp at hj; subst hj
    have := h1 a (List.mem_of_getElem? hi) k ha
    have := h2 k hb
    omega
  · rw [List.getElem?_append_right (by omega), show i - bs.length = 0 by omega] at hi
    simp at hi; subst hi
    rw [List.getElem?_append_left ej] at hj
    have := h1 b (List.mem_of_getElem? hj) k hb
    have := h2 k ha
    omega
  · omega
abbrev allXs (l : List Ent) (s : SA) : List (Dig × Value) := (namesL l).zip s.bs
abbrev allEnc (x : Dig × Value) : List Value := [digV x.1, x.2]
abbrev allKeep (s : SA) (i k : Nat) : Prop := s.lo ≤ k ∧ k < s.hi ∧ ∀ j v, j ≤ i → s.bs[j]? = some v → v.ownBlock ≠ some k
structure AllSetup (l : List Ent) (w1 : World) (s : SA) (V : World) : Prop where
  lo : w1.heap.size ≤ s.lo
  hi : s.hi ≤ V.heap.size
  len : s.bs.length = (namesL l).length
  own : ∀ v ∈ s.bs, ∀ k, v.ownBlock = some k → s.lo ≤ k ∧ k < s.hi
  apart : apartV s.bs
abbrev allAt (l : List Ent) (s : SA) (i : Nat) (V : World) : Prop := ∀ x, (allXs l s)[i]? = some x → Own V TU8 1 x.2 (bytesC (getB l x.1))
abbrev encV (v : Value) : List Value := [v]
theorem encV_length (v : Value) : (encV v).length = 1 := rfl
abbrev flatV (bs : List Value) : List Value := (bs.map encV).flatten
theorem bs1_sl8 (A : Option Addr) (m c : Nat) (w : World) : (Instr.buildSlice 22 1 [(0, .slice A m c)].toArray).run Tryd.prog w = .ok (.slice (some ⟨w.heap.size, 0, none⟩) 1 1) (w.alloc (.cells [.slice A m c].toArray TSl8)) := by
  obtain ⟨i, z, hi, hz, hk, _⟩ := ai_sl8
  exact run_bs1 Tryd.underlying22 hi hz (by omega) (by omega) rfl (by rw [hk]; rfl) w

theorem sall_any (u : Addr) (w : World) : Calls Tryd.prog 16 #[.pointer (some u)] w (Ret fun v w' => ∃ b, v = .func (.func 27) #[] #[.pointer (some ⟨b, 0, none⟩)] ∧ w.heap.size ≤ b ∧ Blk w' b 23 [.pointer (some u)] ∧ Ext w w') := by
  refine calls_of_CW 4 [2] [(0, .pointer (some u))] Tryd.func16 rfl rfl rfl (by simp) args1 ?_
  have hE : Ext w w := Chg.refl
  refine CW.seq fun K1 hK1 => ?_
  refine CW.region ?_   -- region 0
  refine WL.box rfl rfl (by decide) fun g1 w1 hx1 hg1 hB1 => ?_   -- t1 := box 23 t0
  have hlt1 := hB1.lt; have hz1 := hx1.size
  have hM1 := hB1.mem; have hz1 := hx1.size; have hE := hE.thenExt hx1
  refine WL.val (Y.assign rfl) (by decide) ?_   -- t2 := assign c(Value.nilFunc)
  refine WL.nil ?_
  refine hK1 _ _ ?_; try clear hK1 K1
  refine CW.seq fun K2 hK2 => ?_
  refine CW.region ?_   -- region 1
  refine WL.val (Y.makeFunc rfl) (by decide) ?_   -- t3 := makeFunc ['Go.Fn.func', '27'] [] [t1]
  refine WL.val (Y.assign rfl) (by decide) ?_   -- t2 := assign t3
  refine WL.nil ?_
  refine hK2 _ _ ?_; try clear hK2 K2
  refine CW.ret ⟨_, rfl, ?_⟩
  exact ⟨g1, rfl, hg1, hB1, hE⟩
set_option maxHeartbeats 1000000 in
theorem sall1_any (g r b : Nat) (l : List Ent) (w_ : World) (hT_ : StoreAt w_ g r l) (hB_ : Blk w_ b 23 [.pointer (some ⟨g, 0, none⟩)]) : IterC Tryd.prog 27 [.pointer (some ⟨b, 0, none⟩)] w_ (AllSetup l) (allXs l) allEnc (fun _ => False) allKeep (allAt l) (fun _ => True) := by
  intro ln w J Jx hx0 hS hJ hJx hR
  have hT := hT_.ext hx0
  have hB0 := hB_.ext hx0
  have hfew := hT.few
  obtain ⟨id, hid, hzd, _⟩ := info_apiDigest
  refine calls_of_CW 46 [] [(0, .func (.yield ln) #[] #[]), (1, .pointer (some ⟨b, 0, none⟩))] Tryd.func27 rfl rfl rfl (by simp) args2 ?_
  have hE : Ext w w := Chg.refl
  refine CW.seq fun K1 hK1 => ?_
  refine CW.region ?_   -- region 0
  refine WL.val (Y.load1 Tryd.underlying23 rfl (hB0.ext hE).mem.cell0 rfl) (by decide) ?_   -- t11 := load 23 t1
  refine WL.call Tryd.func28 rfl rfl rfl (snames_any g r l _ (hT.ext hE)) (by simp) ?_; rintro v12 w1 hR1   -- t12 := call F28(t11) : 23
  obtain ⟨hNo, hNf, hx1⟩ := hR1
  have hz1 := hx1.size
  have hE := hE.thenExt hx1
  obtain ⟨An, mn, cn, rfl⟩ := hNo.lens
  obtain ⟨hnl, hncap, hnmx⟩ := hNo.len digC_length (by decide)
  have hNlt := hNo.lt
  unfold maxLen at hnmx
  have hnl2 := namesL_length l
  refine WL.val (Y.assign rfl) (by decide) ?_   -- t3 := assign t12
  refine WL.nil ?_
  refine hK1 _ _ ?_; try clear hK1 K1
  refine CW.seq fun K2 hK2 => ?_
  refine CW.region ?_   -- region 1
  refine WL.val (Y.assign rfl) (by decide) ?_   -- t4 := assign c(nilslice)
  refine WL.nil ?_
  refine hK2 _ _ ?_; try clear hK2 K2
  refine CW.seq fun K3 hK3 => ?_
  refine CW.seq fun K4 hK4 => ?_
  refine CW.region ?_   -- region 2
  refine WL.val (Y.move rfl) (by decide) ?_   -- t13 := move t3
  refine WL.val (Y.len_slice Tryd.underlying46 rfl) (by decide) ?_   -- t14 := call len(t13) : 46
  refine WL.val (Y.move rfl) (by decide) ?_   -- t15 := move c(0:i64)
  refine WL.nil ?_
  refine hK4 _ _ ?_; try clear hK4 K4
  refine CW.block ?_   -- block 0
  refine CW.loop (X := Nat × Value × List Value) (fun x => [(0, .func (.yield ln) #[] #[]), (1, .pointer (some ⟨b, 0, none⟩)), (3, .slice An mn cn), (4, x.2.1), (13, .slice An mn cn), (14, .int .i64 (mn : Int)), (15, .int .i64 (x.1 : Int))]) (fun x w0 => x.1 ≤ mn ∧ x.2.2.length = x.1 ∧ Own w0 TSl8 1 x.2.1 (flatV x.2.2) ∧ (∀ k, x.2.1.ownBlock = some k → w1.heap.size ≤ k) ∧ (∀ v ∈ x.2.2, ∀ k, v.ownBlock = some k → w1.heap.size ≤ k ∧ k < w0.heap.size ∧ x.2.1.ownBlock ≠ some k) ∧ apartV x.2.2 ∧ (∀ j v d, x.2.2[j]? = some v → (namesL l)[j]? = some d → Own w0 TU8 1 v (bytesC (getB l d))) ∧ Own w0 TDg 32 (.slice An mn cn) (flatD (namesL l)) ∧ Ext w w0 ∧ w1.heap.size ≤ w0.heap.size) (fun x => mn - x.1) (0, .slice none 0 0, []) (by repeat (first | exact Fr.le.nil | refine Fr.le.cons rfl ?_)) ⟨Nat.zero_le _, rfl, Own.nil, (fun k h => by simp [Value.ownBlock] at h), (fun v h => (nilMem h).elim), (fun i j u v k h _ _ _ => (nilGet h).elim), (fun j v d h _ => (nilGet h).elim), hNo, hE, Nat.le_refl _⟩ ?_
  intro x w2 hl2
  obtain ⟨i, u, bs⟩ := x
  dsimp only at hl2 ⊢
  obtain ⟨hi, hbl, hO, hfu, hbf, hap, hown, hN, hE, hz2⟩ := hl2
  obtain ⟨B, mb, cb, rfl⟩ := hO.lens
  have hlo := hO.lt
  refine CW.seq fun K5 hK5 => ?_
  refine CW.region ?_   -- region 3
  refine WL.val (Y.lss rfl rfl) (by decide) ?_   -- t16 := binOp lss 3 t15 t14 3
  refine WL.nil ?_
  refine hK5 _ _ ?_; try clear hK5 K5
  refine CW.seq fun K6 hK6 => ?_
  first | refine CW.condD rfl (fun ht7 => ?_) (fun ht7 => ?_) | refine CW.condND rfl (fun ht7 => ?_) (fun ht7 => ?_) | refine CW.condN rfl (fun ht7 => ?_) (fun ht7 => ?_) | refine CW.cond rfl (fun ht7 => ?_) (fun ht7 => ?_)
  · -- then
    refine CW.skip ?_
    refine hK6 _ _ ?_; try clear hK6 K6
    refine CW.seq fun K8 hK8 => ?_
    refine CW.block ?_   -- block 1
    refine CW.seq fun K9 hK9 => ?_
    obtain ⟨d, hd⟩ : ∃ d, (namesL l)[i]? = some d := ⟨_, List.getElem?_eq_getElem (by omega)⟩
    obtain ⟨a, rfl, hma⟩ := (hN.sl digC_length (by decide)).at hd
    refine CW.region ?_   -- region 4
    refine WL.val (Y.indexAddrN Tryd.underlying46 rfl rfl sz0_apiDigest (by omega)) (by decide) ?_   -- t17 := indexAddr 46 t13 t15
    refine WL.val (Y.load Tryd.underlying28 rfl hma (sz_apiDigest _) rfl) (by decide) ?_   -- t18 := load 28 t17
    refine as_apiDigest rfl (by simp) (by decide) fun g6 w3 hx3 hg6 hB6 => ?_   -- alloc 28; store 28 t6 t18
    have hlt6 := hB6.lt; have hz3 := hx3.size
    have hM6 := hB6.mem; have hz3 := hx3.size; have hE := hE.thenExt hx3
    refine WL.nil ?_
    refine hK9 _ _ ?_; try clear hK9 K9
    refine CW.seq fun K10 hK10 => ?_
    refine CW.region ?_   -- region 5
    refine WL.val (Y.load1 Tryd.underlying23 rfl (hB0.ext hE).mem.cell0 rfl) (by decide) ?_   -- t20 := load 23 t1
    refine WL.val (Y.load Tryd.underlying28 rfl hB6.mem (sz_apiDigest _) rfl) (by decide) ?_   -- t21 := load 28 t6
    refine WL.call Tryd.func10 rfl rfl rfl (stGet_any g r l d _ (hT.ext hE)) (by simp) ?_; rintro v22 w4 hR4   -- t22 := call F10(t20, t21) : 23,28
    obtain ⟨v, rfl, hV, hvf, hx4⟩ := hR4
    have hz4 := hx4.size
    have hE := hE.thenExt hx4
    have hVlt := hV.lt
    obtain ⟨Av, mv, cv, rfl⟩ := hV.lens
    refine WL.val (Y.move rfl) (by decide) ?_   -- t19 := move t22
    refine WL.val (Y.extract rfl rfl) (by decide) ?_   -- t23 := extract t19 0
    refine WL.val (Y.extract rfl rfl) (by decide) ?_   -- t24 := extract t19 1
    refine WL.val (Y.assign rfl) (by decide) ?_   -- t7 := assign t23
    refine WL.val (Y.assign rfl) (by decide) ?_   -- t8 := assign t24
    refine WL.nil ?_
    refine hK10 _ _ ?_; try clear hK10 K10
    refine CW.region ?_   -- region 6
    refine WL.val (Y.move rfl) (by decide) ?_   -- t25 := move t4
    refine WL.val (Y.move rfl) (by decide) ?_   -- t26 := move t7
    refine WL.st (St.buildSlice rfl (bs1_sl8 _ _ _)) (by decide) fun v27 w5 hR5 => ?_   -- t27 := buildSlice 22 1 [(0,t26)]
    obtain ⟨g27, rfl, hg27, hB27, hx5⟩ := hR5
    have hz5 := hx5.size
    have hE := hE.thenExt hx5
    have hx35 := (hx3.thenExt hx4).thenExt hx5
    refine WL.st (St.append Tryd.underlying22 Tryd.underlying22 ai_sl8 rfl rfl (hO.ext hx35) (Src.one hB27 rfl) (one1 rfl) (by rw [flat_length encV_length]; omega)) (by decide) fun v28 w6 hR6 => ?_   -- t28 := call append(t25, t27) : 22,22
    obtain ⟨hO6, hc6, hf6⟩ := hR6
    have hz6 := hc6.size
    have hE := hE.step hc6 (fun k h => by have := hfu k h; omega)
    refine WL.val (Y.assign rfl) (by decide) ?_   -- t4 := assign t28
    refine WL.nil ?_
    refine hK8 _ _ ?_; try clear hK8 K8
    refine CW.region ?_   -- region 7
    refine WL.val (Y.add rfl rfl ⟨by omega, by omega⟩) (by decide) ?_   -- t29 := binOp add 3 t15 c(1:i64) 3
    refine WL.val (Y.move rfl) (by decide) ?_   -- t15 := move t29
    refine WL.nil ?_
    refine ⟨(i + 1, v28, bs ++ [.slice Av mv cv]), by show mn - (i + 1) < mn - i; omega, (by repeat (first | exact Fr.le.nil | refine Fr.le.cons rfl ?_)), by show i + 1 ≤ mn; omega, by show (bs ++ [_]).length = i + 1; rw [List.length_append, List.length_singleton, hbl], (by show Own _ _ _ _ (flatV (bs ++ [_])); simpa [flatV] using hO6), ?_, ?_, hap.app (m := w3.heap.size) (fun u hu k hk => by have := (hbf u hu k hk).2.1; omega) hvf, ?_, (hN.ext hx35).chg hc6 (fun k hk h => by have := hNlt k hk; have := hfu k h; omega), hE, by omega⟩
    · intro k hk
      rcases hf6 with h | h
      · rw [h] at hk; exact hfu k hk
      · have := h k hk; omega
    · intro v hv k hk
      have key : w1.heap.size ≤ k ∧ k < w5.heap.size ∧ (Value.slice B mb cb).ownBlock ≠ some k := by
        rcases List.mem_append.1 hv with hv | hv
        · have := hbf v hv k hk; exact ⟨this.1, by omega, this.2.2⟩
        · simp at hv; subst hv
          have h1 := hvf k hk; have h2 := hVlt k hk
          exact ⟨by omega, by omega, fun h => by have := hlo k h; omega⟩
      refine ⟨key.1, by omega, fun h => ?_⟩
      rcases hf6 with h6 | h6
      · exact key.2.2 (h6 ▸ h)
      · have := h6 k h; omega
    · intro j v d2 hj hd2
      have hjl := (List.getElem?_eq_some_iff.1 hj).1
      simp only [List.length_append, List.length_singleton] at hjl
      by_cases ej : j < bs.length
      · rw [List.getElem?_append_left ej] at hj
        exact ((hown j v d2 hj hd2).ext hx35).chg hc6 (fun k hk h => (hbf v (List.mem_of_getElem? hj) k hk).2.2 h)
      · have ej : j = i := by omega
        subst ej
        rw [List.getElem?_append_right (by omega), show j - bs.length = 0 by omega] at hj
        simp at hj; subst hj
        rw [hd] at hd2; cases hd2
        exact (hV.ext hx5).chg hc6 (fun k hk h => by have := hvf k hk; have := hlo k h; omega)
  -- else
  refine CW.exit ?_   -- exit 0
  refine hK3 _ _ ?_; try clear hK3 K3
  refine CW.seq fun K11 hK11 => ?_
  refine CW.region ?_   -- region 8
  refine WL.val (Y.move rfl) (by decide) ?_   -- t30 := move t3
  refine WL.val (Y.len_slice Tryd.underlying46 rfl) (by decide) ?_   -- t31 := call len(t30) : 46
  refine WL.val (Y.move rfl) (by decide) ?_   -- t32 := move c(0:i64)
  refine WL.nil ?_
  refine hK11 _ _ ?_; try clear hK11 K11
  refine CW.block ?_   -- block 2
  refine CW.loop (X := Nat) (fun x => [(0, .func (.yield ln) #[] #[]), (4, .slice B mb cb), (30, .slice An mn cn), (31, .int .i64 (mn : Int)), (32, .int .i64 (x : Int))]) (fun x w0 => x ≤ mn ∧ J ⟨w.heap.size, w2.heap.size, bs⟩ x w0 ∧ Own w0 TDg 32 (.slice An mn cn) (flatD (namesL l)) ∧ Own w0 TSl8 1 (.slice B mb cb) (flatV bs) ∧ (∀ j v d, x ≤ j → bs[j]? = some v → (namesL l)[j]? = some d → Own w0 TU8 1 v (bytesC (getB l d))) ∧ w2.heap.size ≤ w0.heap.size) (fun x => mn - x) 0 (by repeat (first | exact Fr.le.nil | refine Fr.le.cons rfl ?_)) ⟨Nat.zero_le _, hS _ _ hE ⟨Nat.le_refl _, Nat.le_refl _, by show bs.length = _; omega, fun v hv k hk => by have := hbf v hv k hk; exact ⟨by show w.heap.size ≤ k; omega, this.2.1⟩, hap⟩, hN, hO, (fun j v d _ => hown j v d), Nat.le_refl _⟩ ?_
  intro x w7 hl7
  obtain ⟨hx, hj7, hN, hO, hown, hz7⟩ := hl7
  have hE : Ext w7 w7 := Chg.refl
  have hbl2 := (hO.len encV_length (by decide)).1
  refine CW.seq fun K12 hK12 => ?_
  refine CW.region ?_   -- region 9
  refine WL.val (Y.lss rfl rfl) (by decide) ?_   -- t33 := binOp lss 3 t32 t31 3
  refine WL.nil ?_
  refine hK12 _ _ ?_; try clear hK12 K12
  refine CW.seq fun K13 hK13 => ?_
  first | refine CW.condD rfl (fun ht14 => ?_) (fun ht14 => ?_) | refine CW.condND rfl (fun ht14 => ?_) (fun ht14 => ?_) | refine CW.condN rfl (fun ht14 => ?_) (fun ht14 => ?_) | refine CW.cond rfl (fun ht14 => ?_) (fun ht14 => ?_)
  · -- then
    refine CW.skip ?_
    refine hK13 _ _ ?_; try clear hK13 K13
    refine CW.seq fun K15 hK15 => ?_
    refine CW.block ?_   -- block 3
    refine CW.seq fun K16 hK16 => ?_
    obtain ⟨d, hd⟩ : ∃ d, (namesL l)[x]? = some d := ⟨_, List.getElem?_eq_getElem (by omega)⟩
    obtain ⟨v, hv⟩ : ∃ v, bs[x]? = some v := ⟨_, List.getElem?_eq_getElem (by omega)⟩
    obtain ⟨a, rfl, hma⟩ := (hN.sl digC_length (by decide)).at hd
    obtain ⟨c0, rfl, hmc⟩ := (hO.sl encV_length (by decide)).at hv
    refine CW.region ?_   -- region 10
    refine WL.val (Y.move rfl) (by decide) ?_   -- t34 := move t32
    refine WL.val (Y.indexAddrN Tryd.underlying46 rfl rfl sz0_apiDigest (by omega)) (by decide) ?_   -- t35 := indexAddr 46 t30 t32
    refine WL.val (Y.load Tryd.underlying28 rfl hma (sz_apiDigest _) rfl) (by decide) ?_   -- t36 := load 28 t35
    refine WL.alloc (hid) (hzd) rfl (by decide) fun g10 w8 hx8 hg10 hB10 => ?_   -- t10 := alloc 28
    have hlt10 := hB10.lt; have hz8 := hx8.size
    have hM10 := hB10.mem; have hz8 := hx8.size; have hE := hE.thenExt hx8
    refine WL.val (Y.assign rfl) (by decide) ?_   -- t9 := assign t34
    refine WL.store (g := g10) (pre := []) (old := digC Dig.zero) (post := []) (new := digC d) rfl rfl rfl rfl (sz_apiDigest _) (by simpa using hB10) (by first | rfl | (simp [digC_length, opC_length]; done) | (simp only [digC_length, opC_length]; omega)) (one_digC) (fun w9 hc9 hB9_ => ?_)   -- _ := store 28 t10 t36
    have hz9 := hc9.size; have hE := hE.step hc9 (fun k h => by omega)
    have hB10 : Blk w9 g10 28 (digC d) := by simpa using hB9_
    refine WL.nil ?_
    refine hK16 _ _ ?_; try clear hK16 K16
    refine CW.seq fun K17 hK17 => ?_
    refine CW.headI 6 (by kernel_rfl) (by kernel_rfl) fun w10 hx10 => ?_   -- region 11
    skip; have hz10 := hx10.size; have hE := hE.thenExt hx10; have hB10 := hB10.ext hx10
    refine HL.val (Y.move rfl) (by decide) ?_   -- t37 := move t0
    refine HL.val (Y.load Tryd.underlying28 rfl hB10.mem (sz_apiDigest _) rfl) (by decide) ?_   -- t38 := load 28 t10
    refine HL.val (Y.move rfl) (by decide) ?_   -- t39 := move t4
    refine HL.val (Y.move rfl) (by decide) ?_   -- t40 := move t9
    refine HL.val (Y.indexAddrN Tryd.underlying22 rfl rfl sz0_suint8 (by omega)) (by decide) ?_   -- t41 := indexAddr 22 t39 t40
    refine HL.val (Y.load1 Tryd.underlying26 rfl (hmc.ext hE).cell0 rfl) (by decide) ?_   -- t42 := load 26 t41
    refine HL.nil ?_
    refine WI.yield rfl rfl (hR _ x (d, v) w10 (hJ _ _ _ _ hj7 hE) (List.getElem?_zip_eq_some.2 ⟨hd, hv⟩) (fun y hy => by obtain ⟨h1, h2⟩ := List.getElem?_zip_eq_some.1 hy; exact (hown x _ _ (Nat.le_refl _) h2 h1).ext hE)) (by decide) (fun b43 w11 hR11 => ?_)   -- t43 := call t37(t38, t42) : 28,26
    skip
    refine WI.val (Y.not rfl) (by decide) ?_   -- t44 := unOp not 4 t43
    refine WI.nil ?_
    refine hK17 _ _ ?_; try clear hK17 K17
    first | refine CW.condD rfl (fun ht18 => ?_) (fun ht18 => ?_) | refine CW.condND rfl (fun ht18 => ?_) (fun ht18 => ?_) | refine CW.condN rfl (fun ht18 => ?_) (fun ht18 => ?_) | refine CW.cond rfl (fun ht18 => ?_) (fun ht18 => ?_)
    · -- then
      refine CW.ret ⟨_, rfl, ?_⟩
      rcases hR11 with ⟨hb, _⟩ | ⟨_, h, _⟩
      · simp_all
      · exact ⟨.inr h, trivial⟩
    -- else
    refine CW.skip ?_
    refine hK15 _ _ ?_; try clear hK15 K15
    refine CW.region ?_   -- region 12
    refine WL.val (Y.add rfl rfl ⟨by omega, by omega⟩) (by decide) ?_   -- t45 := binOp add 3 t32 c(1:i64) 3
    refine WL.val (Y.move rfl) (by decide) ?_   -- t32 := move t45
    refine WL.nil ?_
    rcases hR11 with ⟨_, hj, hc⟩ | ⟨hb, _⟩
    · have hz11 := hc.size
      refine ⟨x + 1, by show mn - (x + 1) < mn - x; omega, (by repeat (first | exact Fr.le.nil | refine Fr.le.cons rfl ?_)), by show x + 1 ≤ mn; omega, hj, ?_, ?_, ?_, by omega⟩
      · refine (hN.ext hE).chg hc fun k hk h => h ⟨hNf k hk, (by show k < w2.heap.size; have := hNlt k hk; omega), fun j v2 _ hv2 hk2 => ?_⟩
        have := hbf v2 (List.mem_of_getElem? hv2) k hk2; have := hNlt k hk; omega
      · refine (hO.ext hE).chg hc fun k hk h => h ⟨(by show w.heap.size ≤ k; have := hfu k hk; omega), hlo k hk, fun j v2 _ hv2 hk2 => (hbf v2 (List.mem_of_getElem? hv2) k hk2).2.2 hk⟩
      · intro j v2 d2 hxj hv2 hd2
        refine ((hown j v2 d2 (by omega) hv2 hd2).ext hE).chg hc fun k hk h => h ⟨(by show w.heap.size ≤ k; have := hbf v2 (List.mem_of_getElem? hv2) k hk; omega), (hbf v2 (List.mem_of_getElem? hv2) k hk).2.1, fun j3 v3 hj3 hv3 hk3 => ?_⟩
        have := hap j3 j v3 v2 k hv3 hv2 hk3 hk; omega
    · simp_all
  -- else
  refine CW.exit ?_   -- exit 2
  refine ⟨_, rfl, ?_⟩
  refine ⟨.inl ⟨⟨w.heap.size, w2.heap.size, bs⟩, ?_⟩, trivial⟩
  have e : (allXs l ⟨w.heap.size, w2.heap.size, bs⟩).length = x := by simp only [allXs, List.length_zip]; omega
  rw [e]
  exact hj7
end Go.Proofs.YtkbmlnkoejlgmaaDoor
