/- The document's trees: the walk, Order, Seen, Text, Ref, Place, Has, walked. No condition. -/
import Derived.Test.YtffkmlkdlhkkmaaFb
import Derived.Test.YtffkmlkdlhkkmaaQv
set_option linter.unusedSimpArgs false
set_option linter.unusedVariables false
namespace Go.Proofs.Ytffkmlkdlhkkmaa
open Go.RowKit Go.Fw Go.Fu Go.Pl
/-- What walk does at an element. -/
def RwC (g : Nat) (ad : List Dig) (rs : List Rn) (av ev_ : Value) (i : Nat) : Prop := ∀ (w : World) (o : Value) (lo : List Nat), RtAt w g ad rs av ev_ → Own w TI8 1 o (intC lo) → (∀ q, o.ownBlock = some q → ¬ Rp g rs av ev_ q) → lo.length + (walkE (rels rs) i).length ≤ 1000000 →
  Calls Try.prog 58 #[.pointer (some ⟨g, 0, none⟩), .int .i64 (i : Int), o] w (Ret fun v w' => Own w' TI8 1 v (intC (lo ++ walkE (rels rs) i)) ∧ Chg (fun k => o.ownBlock = some k) w w' ∧ ∀ k, v.ownBlock = some k → o.ownBlock = some k ∨ w.heap.size ≤ k)

set_option maxHeartbeats 1000000 in
theorem rwalk_step (g : Nat) (ad : List Dig) (rs : List Rn) (av ev_ : Value) (i : Nat) (el : El) (lv rv : Value) (hn : rs.length ≤ 400001) (hD : Fu.Down (rels rs)) (hz : rs[i]? = some ⟨el, lv, rv⟩) (IH : ∀ c, c ∈ el.left ∨ c ∈ el.right → c < rs.length → RwC g ad rs av ev_ c) (w : World) (o : Value) (lo : List Nat) (hR : RtAt w g ad rs av ev_) (ho : Own w TI8 1 o (intC lo)) (hd : ∀ q, o.ownBlock = some q → ¬ Rp g rs av ev_ q) (hlen : lo.length + (walkE (rels rs) i).length ≤ 1000000) : Calls Try.prog 58 #[.pointer (some ⟨g, 0, none⟩), .int .i64 (i : Int), o] w (Ret fun v w' => Own w' TI8 1 v (intC (lo ++ walkE (rels rs) i)) ∧ Chg (fun k => o.ownBlock = some k) w w' ∧ ∀ k, v.ownBlock = some k → o.ownBlock = some k ∨ w.heap.size ≤ k) := by
  obtain ⟨A, m, c, rfl⟩ := hR.es.lens
  have hsl := hR.sl
  have hel : (rels rs).length = rs.length := List.length_map _
  have hmm : rs.length = m ∧ m ≤ c ∧ c ≤ maxLen := by
    obtain ⟨A', m', c', e, h1, h2, h3, _⟩ := hsl
    injection e with e1 e2 e3
    exact ⟨by omega, by omega, by omega⟩
  unfold maxLen at hmm
  have hat : ∀ i x, rs[i]? = some x → ∃ a, A = some a ∧ Mem w (a.add (i * 38)) (rC x) := fun i x hx => hsl.get hx
  have hxe : ∀ (i : Nat) (x : Rn), rs[i]? = some x → (rels rs)[i]? = some x.el := fun i x hx => by rw [List.getElem?_map, hx]; rfl
  have hil := (List.getElem?_eq_some_iff.1 hz).1
  obtain ⟨a, ha, hmz⟩ := hat i _ hz
  obtain rfl := ha
  have hzm := List.mem_of_getElem? hz
  have hkl : Own w TI8 1 lv (intC el.left) := hR.kids _ hzm true
  have hkr : Own w TI8 1 rv (intC el.right) := hR.kids _ hzm false
  obtain ⟨LA, lm, lc, rfl⟩ := hkl.lens
  obtain ⟨MA, mm, mc, rfl⟩ := hkr.lens
  obtain ⟨hll, _⟩ := int_map hkl
  obtain ⟨hrl, _⟩ := int_map hkr
  have hwe := walkE_eq hD (hxe i _ hz)
  dsimp only at hwe
  have hdn := hD i el (hxe i _ hz)
  have hle : (walkE (rels rs) i).length = (el.left.flatMap (walkE (rels rs))).length + 1 + (el.right.flatMap (walkE (rels rs))).length := by rw [hwe]; simp; omega
  have hcl := hkl.mem LA lm lc rfl
  have hcr := hkr.mem MA mm mc rfl
  unfold maxLen at hcl hcr
  refine calls_of_CW 58 [6] [(0, .pointer (some ⟨g, 0, none⟩)), (1, .int .i64 (i : Int)), (2, o)] Try.func58 rfl rfl rfl (by simp) args3 ?_
  have hE : Ext w w := Chg.refl
  refine CW.seq fun K1 hK1 => ?_
  refine CW.region ?_   -- region 0
  refine WL.val (Y.assign rfl) (by decide) ?_   -- t6 := assign c(nilslice)
  refine WL.nil ?_
  refine hK1 _ _ ?_; try clear hK1 K1
  refine CW.seq fun K2 hK2 => ?_
  refine CW.region ?_   -- region 1
  refine WL.val (Y.move rfl) (by decide) ?_   -- t11 := move t0
  refine WL.val (Y.nilCheck rfl) (by decide) ?_   -- t12 := nilCheck t11
  refine WL.val (Y.fieldAddr fo_recensionref08Tree1 rfl) (by decide) ?_   -- t13 := fieldAddr 55 t12 1
  refine WL.val (Y.load1 Try.underlying53 rfl hR.blk.mem.recensionref08Tree1 rfl) (by decide) ?_   -- t14 := load 53 t13
  refine WL.val (Y.move rfl) (by decide) ?_   -- t15 := move t1
  refine WL.val (Y.indexAddrN Try.underlying53 rfl rfl sz0_recensionref08Elem (by omega)) (by decide) ?_   -- t16 := indexAddr 53 t14 t15
  refine WL.val (Y.fieldAddr fo_recensionref08Elem3 rfl) (by decide) ?_   -- t17 := fieldAddr 51 t16 3
  refine WL.val (Y.load1 Try.underlying43 rfl hmz.recensionref08Elem3 rfl) (by decide) ?_   -- t18 := load 43 t17
  refine WL.val (Y.assign rfl) (by decide) ?_   -- t7 := assign t18
  refine WL.nil ?_
  refine hK2 _ _ ?_; try clear hK2 K2
  refine CW.seq fun K3 hK3 => ?_
  refine CW.seq fun K4 hK4 => ?_
  refine CW.region ?_   -- region 2
  refine WL.val (Y.assign rfl) (by decide) ?_   -- t8 := assign c(0:i64)
  refine WL.nil ?_
  refine hK4 _ _ ?_; try clear hK4 K4
  refine CW.block ?_   -- block 0
  refine CW.loop (X := Nat × Value) (fun x => [(0, .pointer (some ⟨g, 0, none⟩)), (1, .int .i64 (i : Int)), (2, x.2), (7, .slice LA lm lc), (8, .int .i64 (x.1 : Int))]) (fun x w0 => x.1 ≤ lm ∧ Own w0 TI8 1 x.2 (intC (lo ++ (el.left.take x.1).flatMap (walkE (rels rs)))) ∧ Chg (fun q => o.ownBlock = some q) w w0 ∧ ∀ q, x.2.ownBlock = some q → o.ownBlock = some q ∨ w.heap.size ≤ q) (fun x => lm - x.1) (0, o) (by repeat (first | exact Fr.le.nil | refine Fr.le.cons rfl ?_)) ⟨Nat.zero_le _, (by simpa using ho), Chg.refl, (fun q hq => .inl hq)⟩ ?_
  intro x w1 hl1
  obtain ⟨k, u1⟩ := x
  dsimp only at hl1 ⊢
  obtain ⟨hkm, hO, hC, hf⟩ := hl1
  have hzC := hC.size
  have hR1 : RtAt w1 g ad rs av (.slice (some a) m c) := hR.chg hC (fun q hq h => hd q h hq)
  have hd1 : ∀ q, u1.ownBlock = some q → ¬ Rp g rs av (.slice (some a) m c) q := fun q hq h => by
    rcases hf q hq with h1 | h1
    · exact hd q h1 h
    · have := hR.lt h; omega
  refine CW.seq fun K5 hK5 => ?_
  refine CW.seq fun K6 hK6 => ?_
  refine CW.region ?_   -- region 3
  refine WL.val (Y.move rfl) (by decide) ?_   -- t19 := move t8
  refine WL.val (Y.move rfl) (by decide) ?_   -- t20 := move t7
  refine WL.val (Y.len_slice Try.underlying43 rfl) (by decide) ?_   -- t21 := call len(t20) : 43
  refine WL.val (Y.lss rfl rfl) (by decide) ?_   -- t22 := binOp lss 3 t19 t21 3
  refine WL.nil ?_
  refine hK6 _ _ ?_; try clear hK6 K6
  first | refine CW.condD rfl (fun ht7 => ?_) (fun ht7 => ?_) | refine CW.condND rfl (fun ht7 => ?_) (fun ht7 => ?_) | refine CW.condN rfl (fun ht7 => ?_) (fun ht7 => ?_) | refine CW.cond rfl (fun ht7 => ?_) (fun ht7 => ?_)
  · -- then
    refine CW.skip ?_
    refine hK5 _ _ ?_; try clear hK5 K5
    refine CW.seq fun K8 hK8 => ?_
    refine CW.block ?_   -- block 1
    obtain ⟨b, hb⟩ : ∃ b, el.left[k]? = some b := ⟨_, List.getElem?_eq_getElem (by omega)⟩
    have hbm := List.mem_of_getElem? hb
    have hbl : b < rs.length := by have := hdn b (.inl hbm); omega
    obtain ⟨a2, rfl, hma⟩ := (int_map ((hR1.kids _ hzm true))).2 k b hb
    have hfl := flat_take_le (f := walkE (rels rs)) hb
    refine CW.region ?_   -- region 5
    refine WL.val (Y.move rfl) (by decide) ?_   -- t25 := move t0
    refine WL.val (Y.move rfl) (by decide) ?_   -- t26 := move t7
    refine WL.val (Y.move rfl) (by decide) ?_   -- t27 := move t8
    refine WL.val (Y.indexAddrN Try.underlying43 rfl rfl sz0_int (by omega)) (by decide) ?_   -- t28 := indexAddr 43 t26 t27
    refine WL.val (Y.load1 Try.underlying3 rfl hma.cell0 rfl) (by decide) ?_   -- t29 := load 3 t28
    refine WL.val (Y.move rfl) (by decide) ?_   -- t30 := move t2
    refine WL.call Try.func58 rfl rfl rfl (IH b (.inl hbm) hbl _ u1 _ hR1 hO hd1 (by rw [List.length_append]; omega)) (by simp) ?_; rintro v31 w2 hR2   -- t31 := call F58(t25, t29, t30) : 28,3,43
    obtain ⟨hO2, hc2, hf2⟩ := hR2
    have hz2 := hc2.size
    refine WL.val (Y.assign rfl) (by decide) ?_   -- t2 := assign t31
    refine WL.nil ?_
    refine hK8 _ _ ?_; try clear hK8 K8
    refine CW.region ?_   -- region 4
    refine WL.val (Y.move rfl) (by decide) ?_   -- t23 := move t8
    refine WL.val (Y.add rfl rfl ⟨by omega, by omega⟩) (by decide) ?_   -- t24 := binOp add 3 t23 c(1:i64) 3
    refine WL.val (Y.assign rfl) (by decide) ?_   -- t8 := assign t24
    refine WL.nil ?_
    have htk := flat_takeS (f := walkE (rels rs)) hb
    exact ⟨(k + 1, v31), (by show lm - (k + 1) < lm - k; omega), (by repeat (first | exact Fr.le.nil | refine Fr.le.cons rfl ?_)), (by show k + 1 ≤ lm; omega), (by show Own _ _ _ _ (intC (lo ++ (el.left.take (k + 1)).flatMap (walkE (rels rs)))); rw [htk, ← List.append_assoc]; exact hO2), hC.stepO hc2 (fun q hq => hf q hq), (fun q hq => by
      rcases hf2 q hq with h | h
      · exact hf q h
      · exact .inr (by omega))⟩
  -- else
  refine CW.exit ?_   -- exit 0
  refine hK3 _ _ ?_; try clear hK3 K3
  refine CW.seq fun K9 hK9 => ?_
  refine CW.region ?_   -- region 6
  refine WL.val (Y.move rfl) (by decide) ?_   -- t32 := move t2
  refine WL.val (Y.move rfl) (by decide) ?_   -- t33 := move t1
  refine WL.st (St.buildSlice rfl (bs1_int _)) (by decide) fun v34 w3 hR3 => ?_   -- t34 := buildSlice 43 1 [(0,t33)]
  have hke : el.left.take k = el.left := List.take_of_length_le (by omega)
  rw [hke] at hO
  obtain ⟨g34, rfl, hg34, hB34, hx3⟩ := hR3
  have hz3 := hx3.size
  refine WL.st (St.append (m := 1) (news := intC [i]) UI UI ai_int rfl rfl (hO.ext hx3) (Fw.Src.one hB34 rfl) one_intC (by rw [intC_length, List.length_append]; omega)) (by decide) fun v35 w4 hR4 => ?_   -- t35 := call append(t32, t34) : 43,43
  obtain ⟨hO4, hc4, hf4⟩ := hR4
  have hz4 := hc4.size
  rw [← intC_app] at hO4
  have hC4 : Chg (fun q => o.ownBlock = some q) w w4 := (hC.thenExt hx3).stepO hc4 (fun q hq => hf q hq)
  have hf5 : ∀ q, v35.ownBlock = some q → o.ownBlock = some q ∨ w.heap.size ≤ q := fun q hq => by
    rcases hf4 with h | h
    · rw [h] at hq; exact hf q hq
    · exact .inr (by have := h q hq; omega)
  have hR4 : RtAt w4 g ad rs av (.slice (some a) m c) := hR.chg hC4 (fun q hq h => hd q h hq)
  obtain ⟨a4, ha4, hmz4⟩ := hR4.sl.get hz
  obtain rfl := Option.some.inj ha4
  refine WL.val (Y.assign rfl) (by decide) ?_   -- t2 := assign t35
  refine WL.nil ?_
  refine hK9 _ _ ?_; try clear hK9 K9
  refine CW.seq fun K10 hK10 => ?_
  refine CW.region ?_   -- region 7
  refine WL.val (Y.move rfl) (by decide) ?_   -- t36 := move t0
  refine WL.val (Y.nilCheck rfl) (by decide) ?_   -- t37 := nilCheck t36
  refine WL.val (Y.fieldAddr fo_recensionref08Tree1 rfl) (by decide) ?_   -- t38 := fieldAddr 55 t37 1
  refine WL.val (Y.load1 Try.underlying53 rfl hR4.blk.mem.recensionref08Tree1 rfl) (by decide) ?_   -- t39 := load 53 t38
  refine WL.val (Y.move rfl) (by decide) ?_   -- t40 := move t1
  refine WL.val (Y.indexAddrN Try.underlying53 rfl rfl sz0_recensionref08Elem (by omega)) (by decide) ?_   -- t41 := indexAddr 53 t39 t40
  refine WL.val (Y.fieldAddr fo_recensionref08Elem4 rfl) (by decide) ?_   -- t42 := fieldAddr 51 t41 4
  refine WL.val (Y.load1 Try.underlying43 rfl hmz4.recensionref08Elem4 rfl) (by decide) ?_   -- t43 := load 43 t42
  refine WL.val (Y.assign rfl) (by decide) ?_   -- t9 := assign t43
  refine WL.nil ?_
  refine hK10 _ _ ?_; try clear hK10 K10
  refine CW.seq fun K11 hK11 => ?_
  refine CW.seq fun K12 hK12 => ?_
  refine CW.region ?_   -- region 8
  refine WL.val (Y.assign rfl) (by decide) ?_   -- t10 := assign c(0:i64)
  refine WL.nil ?_
  refine hK12 _ _ ?_; try clear hK12 K12
  refine CW.block ?_   -- block 2
  refine CW.loop (X := Nat × Value) (fun x => [(0, .pointer (some ⟨g, 0, none⟩)), (1, .int .i64 (i : Int)), (2, x.2), (9, .slice MA mm mc), (10, .int .i64 (x.1 : Int))]) (fun x w0 => x.1 ≤ mm ∧ Own w0 TI8 1 x.2 (intC (lo ++ el.left.flatMap (walkE (rels rs)) ++ [i] ++ (el.right.take x.1).flatMap (walkE (rels rs)))) ∧ Chg (fun q => o.ownBlock = some q) w w0 ∧ ∀ q, x.2.ownBlock = some q → o.ownBlock = some q ∨ w.heap.size ≤ q) (fun x => mm - x.1) (0, v35) (by repeat (first | exact Fr.le.nil | refine Fr.le.cons rfl ?_)) ⟨Nat.zero_le _, (by simpa using hO4), hC4, hf5⟩ ?_
  intro x w5 hl5
  obtain ⟨k, u1⟩ := x
  dsimp only at hl5 ⊢
  obtain ⟨hkm, hO, hC, hf⟩ := hl5
  have hzC := hC.size
  have hR1 : RtAt w5 g ad rs av (.slice (some a) m c) := hR.chg hC (fun q hq h => hd q h hq)
  have hd1 : ∀ q, u1.ownBlock = some q → ¬ Rp g rs av (.slice (some a) m c) q := fun q hq h => by
    rcases hf q hq with h1 | h1
    · exact hd q h1 h
    · have := hR.lt h; omega
  refine CW.seq fun K13 hK13 => ?_
  refine CW.seq fun K14 hK14 => ?_
  refine CW.region ?_   -- region 9
  refine WL.val (Y.move rfl) (by decide) ?_   -- t44 := move t10
  refine WL.val (Y.move rfl) (by decide) ?_   -- t45 := move t9
  refine WL.val (Y.len_slice Try.underlying43 rfl) (by decide) ?_   -- t46 := call len(t45) : 43
  refine WL.val (Y.lss rfl rfl) (by decide) ?_   -- t47 := binOp lss 3 t44 t46 3
  refine WL.nil ?_
  refine hK14 _ _ ?_; try clear hK14 K14
  first | refine CW.condD rfl (fun ht15 => ?_) (fun ht15 => ?_) | refine CW.condND rfl (fun ht15 => ?_) (fun ht15 => ?_) | refine CW.condN rfl (fun ht15 => ?_) (fun ht15 => ?_) | refine CW.cond rfl (fun ht15 => ?_) (fun ht15 => ?_)
  · -- then
    refine CW.skip ?_
    refine hK13 _ _ ?_; try clear hK13 K13
    refine CW.seq fun K16 hK16 => ?_
    refine CW.block ?_   -- block 3
    obtain ⟨b, hb⟩ : ∃ b, el.right[k]? = some b := ⟨_, List.getElem?_eq_getElem (by omega)⟩
    have hbm := List.mem_of_getElem? hb
    have hbl : b < rs.length := by have := hdn b (.inr hbm); omega
    obtain ⟨a2, rfl, hma⟩ := (int_map ((hR1.kids _ hzm false))).2 k b hb
    have hfl := flat_take_le (f := walkE (rels rs)) hb
    refine CW.region ?_   -- region 11
    refine WL.val (Y.move rfl) (by decide) ?_   -- t50 := move t0
    refine WL.val (Y.move rfl) (by decide) ?_   -- t51 := move t9
    refine WL.val (Y.move rfl) (by decide) ?_   -- t52 := move t10
    refine WL.val (Y.indexAddrN Try.underlying43 rfl rfl sz0_int (by omega)) (by decide) ?_   -- t53 := indexAddr 43 t51 t52
    refine WL.val (Y.load1 Try.underlying3 rfl hma.cell0 rfl) (by decide) ?_   -- t54 := load 3 t53
    refine WL.val (Y.move rfl) (by decide) ?_   -- t55 := move t2
    refine WL.call Try.func58 rfl rfl rfl (IH b (.inr hbm) hbl _ u1 _ hR1 hO hd1 (by simp only [List.length_append, List.length_singleton]; omega)) (by simp) ?_; rintro v56 w6 hR6   -- t56 := call F58(t50, t54, t55) : 28,3,43
    obtain ⟨hO2, hc2, hf2⟩ := hR6
    have hz2 := hc2.size
    refine WL.val (Y.assign rfl) (by decide) ?_   -- t2 := assign t56
    refine WL.nil ?_
    refine hK16 _ _ ?_; try clear hK16 K16
    refine CW.region ?_   -- region 10
    refine WL.val (Y.move rfl) (by decide) ?_   -- t48 := move t10
    refine WL.val (Y.add rfl rfl ⟨by omega, by omega⟩) (by decide) ?_   -- t49 := binOp add 3 t48 c(1:i64) 3
    refine WL.val (Y.assign rfl) (by decide) ?_   -- t10 := assign t49
    refine WL.nil ?_
    have htk := flat_takeS (f := walkE (rels rs)) hb
    exact ⟨(k + 1, v56), (by show mm - (k + 1) < mm - k; omega), (by repeat (first | exact Fr.le.nil | refine Fr.le.cons rfl ?_)), (by show k + 1 ≤ mm; omega), (by show Own _ _ _ _ (intC (lo ++ el.left.flatMap (walkE (rels rs)) ++ [i] ++ (el.right.take (k + 1)).flatMap (walkE (rels rs)))); rw [htk, ← List.append_assoc]; exact hO2), hC.stepO hc2 (fun q hq => hf q hq), (fun q hq => by
      rcases hf2 q hq with h | h
      · exact hf q h
      · exact .inr (by omega))⟩
  -- else
  refine CW.exit ?_   -- exit 2
  refine hK11 _ _ ?_; try clear hK11 K11
  refine CW.seq fun K17 hK17 => ?_
  refine CW.region ?_   -- region 12
  refine WL.val (Y.move rfl) (by decide) ?_   -- t57 := move t2
  refine WL.val (Y.assign rfl) (by decide) ?_   -- t6 := assign t57
  refine WL.nil ?_
  refine hK17 _ _ ?_; try clear hK17 K17
  refine CW.ret ⟨_, rfl, ?_⟩
  have hke : el.right.take k = el.right := List.take_of_length_le (by omega)
  rw [hke] at hO
  exact ⟨by rw [hwe]; simpa using hO, hC, hf⟩
end Go.Proofs.Ytffkmlkdlhkkmaa
