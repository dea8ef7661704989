/- The document's trees: Order, Seen, Ref, Place, Has, walked. No condition. -/
import Derived.Test.YtffkmlkdlhkkmaaFd
import Derived.Test.YtffkmlkdlhkkmaaRg
set_option linter.unusedSimpArgs false
set_option linter.unusedVariables false
namespace Go.Proofs.Ytffkmlkdlhkkmaa
open Go.RowKit Go.Fw Go.Fu Go.Pl
theorem rwalk_all (g : Nat) (ad : List Dig) (rs : List Rn) (av ev_ : Value) (hn : rs.length ≤ 400001) (hD : Fu.Down (rels rs)) : ∀ i, i < rs.length → RwC g ad rs av ev_ i := by
  have hel : (rels rs).length = rs.length := List.length_map _
  intro i hi
  refine down_ind hD (P := RwC g ad rs av ev_) (fun i x hx IH => ?_) i (by omega)
  have hil := (List.getElem?_eq_some_iff.1 hx).1
  obtain ⟨z, hz⟩ : ∃ z, rs[i]? = some z := ⟨_, List.getElem?_eq_getElem (by omega)⟩
  rw [List.getElem?_map, hz] at hx
  obtain rfl := Option.some.inj hx
  obtain ⟨el, lv, rv⟩ := z
  intro w o lo hR ho hd hl
  exact rwalk_step g ad rs av ev_ i el lv rv hn hD hz (fun c hc hcl => IH c hc (by omega)) w o lo hR ho hd hl

theorem rorder_any (g : Nat) (ad : List Dig) (rs : List Rn) (av ev_ : Value) (w : World) (hR : RtAt w g ad rs av ev_) (hG : Fu.Good (rels rs)) (hn : rs.length ≤ 400001) : Calls Try.prog 42 #[.pointer (some ⟨g, 0, none⟩)] w (Ret fun v w' => Own w' TI8 1 v (intC (orderE (rels rs))) ∧ (∀ k, v.ownBlock = some k → w.heap.size ≤ k) ∧ Ext w w') := by
  have hpos := hG.pos
  have hel : (rels rs).length = rs.length := List.length_map _
  have hol : (orderE (rels rs)).length = rs.length := by
    have := hG.perm.length_eq
    rwa [List.length_range, hel] at this
  refine calls_of_CW 5 [2] [(0, .pointer (some ⟨g, 0, none⟩))] Try.func42 rfl rfl rfl (by simp) args1 ?_
  have hE : Ext w w := Chg.refl
  refine CW.seq fun K1 hK1 => ?_
  refine CW.region ?_   -- region 0
  refine WL.val (Y.assign rfl) (by decide) ?_   -- t2 := assign c(nilslice)
  refine WL.nil ?_
  refine hK1 _ _ ?_; try clear hK1 K1
  refine CW.seq fun K2 hK2 => ?_
  refine CW.region ?_   -- region 1
  refine WL.val (Y.move rfl) (by decide) ?_   -- t3 := move t0
  refine WL.call Try.func58 rfl rfl rfl (rwalk_all g ad rs av ev_ hn hG.down 0 (by omega) _ (.slice none 0 0) [] (hR.ext hE) Own.nil (fun q h => by simp [Value.ownBlock] at h) (by show 0 + (orderE (rels rs)).length ≤ _; omega)) (by simp) ?_; rintro v4 w1 hR1   -- t4 := call F58(t3, c(0:i64), c(nilslice)) : 28,3,43
  obtain ⟨hO1, hc1, hf1⟩ := hR1
  have hz1 := hc1.size
  have hE := hE.step hc1 (fun q h => by simp [Value.ownBlock] at h)
  rw [List.nil_append] at hO1
  refine WL.val (Y.assign rfl) (by decide) ?_   -- t2 := assign t4
  refine WL.nil ?_
  refine hK2 _ _ ?_; try clear hK2 K2
  refine CW.ret ⟨_, rfl, ?_⟩
  exact ⟨hO1, (fun k hk => by
    rcases hf1 k hk with h | h
    · simp [Value.ownBlock] at h
    · exact h), hE⟩
set_option maxHeartbeats 1000000 in
theorem rseen_any (g : Nat) (ad : List Dig) (rs : List Rn) (av ev_ : Value) (w : World) (hR : RtAt w g ad rs av ev_) (hG : Fu.Good (rels rs)) (hn : rs.length ≤ 400001) : Calls Try.prog 18 #[.pointer (some ⟨g, 0, none⟩)] w (Ret fun v w' => Own w' TI8 1 v (intC (seenE (rels rs))) ∧ (∀ k, v.ownBlock = some k → w.heap.size ≤ k) ∧ Ext w w') := by
  obtain ⟨A, m, c, rfl⟩ := hR.es.lens
  have hsl := hR.sl
  have hel : (rels rs).length = rs.length := List.length_map _
  have hmm : rs.length = m ∧ m ≤ c ∧ c ≤ maxLen := by
    obtain ⟨A', m', c', e, h1, h2, h3, _⟩ := hsl
    injection e with e1 e2 e3
    exact ⟨by omega, by omega, by omega⟩
  unfold maxLen at hmm
  have hat : ∀ i x, rs[i]? = some x → ∃ a, A = some a ∧ Mem w (a.add (i * 38)) (rC x) := fun i x hx => hsl.get hx
  have hxe : ∀ (i : Nat) (x : Rn), rs[i]? = some x → (rels rs)[i]? = some x.el := fun i x hx => by rw [List.getElem?_map, hx]; rfl
  have hpos := hG.pos
  obtain ⟨x0, hx0⟩ : ∃ x, rs[0]? = some x := ⟨_, List.getElem?_eq_getElem (by omega)⟩
  obtain ⟨EA, hEA, _⟩ := hat 0 x0 hx0
  subst hEA
  have hme : ∀ i x, rs[i]? = some x → Mem w (EA.add (i * 38)) (rC x) := fun i x hx => by
    obtain ⟨a, ha, h⟩ := hat i x hx
    cases ha; exact h
  have hol : (orderE (rels rs)).length = rs.length := by
    have := hG.perm.length_eq
    rwa [List.length_range, hel] at this
  have hsn : (seenE (rels rs)).length ≤ 400001 := by
    have : (seenE (rels rs)).length ≤ (orderE (rels rs)).length := List.length_filter_le _ _
    omega
  obtain ⟨ir, hir, hzr, hsr⟩ := info_apiRef
  refine calls_of_CW 34 [2] [(0, .pointer (some ⟨g, 0, none⟩))] Try.func18 rfl rfl rfl (by simp) args1 ?_
  have hE : Ext w w := Chg.refl
  refine CW.seq fun K1 hK1 => ?_
  refine CW.region ?_   -- region 0
  refine WL.val (Y.assign rfl) (by decide) ?_   -- t2 := assign c(nilslice)
  refine WL.nil ?_
  refine hK1 _ _ ?_; try clear hK1 K1
  refine CW.seq fun K2 hK2 => ?_
  refine CW.region ?_   -- region 1
  refine WL.val (Y.move rfl) (by decide) ?_   -- t6 := move t0
  refine WL.call Try.func42 rfl rfl rfl (rorder_any g ad rs av _ _ (hR.ext hE) hG hn) (by simp) ?_; rintro v7 w1 hR1   -- t7 := call F42(t6) : 28
  obtain ⟨hOS, hfS, hxS⟩ := hR1
  have hzS := hxS.size
  obtain ⟨SA, Sm, Sc, rfl⟩ := hOS.lens
  obtain ⟨hlmS, hlgS⟩ := int_map hOS
  have hccS := (hOS.mem SA Sm Sc rfl).2.2.2
  unfold maxLen at hccS
  have hE := hE.thenExt hxS
  refine WL.val (Y.assign rfl) (by decide) ?_   -- t3 := assign t7
  refine WL.nil ?_
  refine hK2 _ _ ?_; try clear hK2 K2
  refine CW.seq fun K3 hK3 => ?_
  refine CW.region ?_   -- region 2
  refine WL.val (Y.assign rfl) (by decide) ?_   -- t4 := assign c(nilslice)
  refine WL.nil ?_
  refine hK3 _ _ ?_; try clear hK3 K3
  refine CW.seq fun K4 hK4 => ?_
  refine CW.seq fun K5 hK5 => ?_
  refine CW.region ?_   -- region 3
  refine WL.val (Y.assign rfl) (by decide) ?_   -- t5 := assign c(0:i64)
  refine WL.nil ?_
  refine hK5 _ _ ?_; try clear hK5 K5
  refine CW.block ?_   -- block 0
  refine CW.loop (X := Nat × Value) (fun x => [(0, .pointer (some ⟨g, 0, none⟩)), (3, .slice SA Sm Sc), (4, x.2), (5, .int .i64 (x.1 : Int))]) (fun x w0 => x.1 ≤ Sm ∧ Own w0 TI8 1 x.2 (intC (((orderE (rels rs)).take x.1).filter (fun j => !goneAt (rels rs) j))) ∧ (∀ q, x.2.ownBlock = some q → w1.heap.size ≤ q) ∧ Ext w1 w0) (fun x => Sm - x.1) (0, .slice none 0 0) (by repeat (first | exact Fr.le.nil | refine Fr.le.cons rfl ?_)) ⟨Nat.zero_le _, Own.nil, (fun q h => by simp [Value.ownBlock] at h), Chg.refl⟩ ?_
  intro x w2 hl2
  obtain ⟨k, u1⟩ := x
  dsimp only at hl2 ⊢
  obtain ⟨hkm, hO, hfr, hE2⟩ := hl2
  have hE := hE.thenExt hE2
  have hz2 := hE2.size
  refine CW.seq fun K6 hK6 => ?_
  refine CW.seq fun K7 hK7 => ?_
  refine CW.region ?_   -- region 4
  refine WL.val (Y.move rfl) (by decide) ?_   -- t8 := move t5
  refine WL.val (Y.move rfl) (by decide) ?_   -- t9 := move t3
  refine WL.val (Y.len_slice Try.underlying43 rfl) (by decide) ?_   -- t10 := call len(t9) : 43
  refine WL.val (Y.lss rfl rfl) (by decide) ?_   -- t11 := binOp lss 3 t8 t10 3
  refine WL.nil ?_
  refine hK7 _ _ ?_; try clear hK7 K7
  first | refine CW.condD rfl (fun ht8 => ?_) (fun ht8 => ?_) | refine CW.condND rfl (fun ht8 => ?_) (fun ht8 => ?_) | refine CW.condN rfl (fun ht8 => ?_) (fun ht8 => ?_) | refine CW.cond rfl (fun ht8 => ?_) (fun ht8 => ?_)
  · -- then
    refine CW.skip ?_
    refine hK6 _ _ ?_; try clear hK6 K6
    obtain ⟨q, hqk⟩ : ∃ q, (orderE (rels rs))[k]? = some q := ⟨_, List.getElem?_eq_getElem (by omega)⟩
    obtain ⟨oa, rfl, hmo⟩ := hlgS k q hqk
    have hql : q < rs.length := by have := hG.mem.1 (List.mem_of_getElem? hqk); omega
    obtain ⟨y, hy⟩ : ∃ y, rs[q]? = some y := ⟨_, List.getElem?_eq_getElem hql⟩
    have hye := hxe q y hy
    have hmy := hme q y hy
    have hgy : goneAt (rels rs) q = y.el.gone := goneAt_at hye
    have hts : ((orderE (rels rs)).take (k + 1)).filter (fun j => !goneAt (rels rs) j) = ((orderE (rels rs)).take k).filter (fun j => !goneAt (rels rs) j) ++ if y.el.gone = true then [] else [q] := by
      rw [Go.Pl.take_succ hqk, List.filter_append, List.filter_cons, List.filter_nil, hgy]
      cases y.el.gone <;> rfl
    have hfl : (((orderE (rels rs)).take k).filter (fun j => !goneAt (rels rs) j)).length ≤ k := Nat.le_trans (List.length_filter_le _ _) (by rw [List.length_take]; omega)
    refine CW.seq_to (X := Value) (fun u2 => [(0, .pointer (some ⟨g, 0, none⟩)), (3, .slice (some oa) Sm Sc), (4, u2), (5, .int .i64 (k : Int))]) (fun u2 w0 => Own w0 TI8 1 u2 (intC (((orderE (rels rs)).take (k + 1)).filter (fun j => !goneAt (rels rs) j))) ∧ (∀ q, u2.ownBlock = some q → w1.heap.size ≤ q) ∧ Ext w1 w0) ?_ ?_
    · skip
      refine CW.block ?_   -- block 1
      refine CW.seq fun K10 hK10 => ?_
      refine CW.quiet (fun wq => Ext w2 wq) (by kernel_rfl) (by kernel_rfl) Chg.drew ?_
      refine QL.val (fun wq hq => Y.move rfl) (by decide) ?_   -- t14 := move t0
      refine QL.val (fun wq hq => Y.nilCheck rfl) (by decide) ?_   -- t15 := nilCheck t14
      refine QL.val (fun wq hq => Y.fieldAddr fo_recensionref08Tree1 rfl) (by decide) ?_   -- t16 := fieldAddr 55 t15 1
      refine QL.val (fun wq hq => Y.load1 Try.underlying53 rfl (((hR.ext hE).ext hq).blk.mem.recensionref08Tree1) rfl) (by decide) ?_   -- t17 := load 53 t16
      refine QL.val (fun wq hq => Y.move rfl) (by decide) ?_   -- t18 := move t3
      refine QL.val (fun wq hq => Y.move rfl) (by decide) ?_   -- t19 := move t5
      refine QL.val (fun wq hq => Y.indexAddrN Try.underlying43 rfl rfl sz0_int (by omega)) (by decide) ?_   -- t20 := indexAddr 43 t18 t19
      refine QL.val (fun wq hq => Y.load1 Try.underlying3 rfl (((hmo.ext hE2).ext hq).cell0) rfl) (by decide) ?_   -- t21 := load 3 t20
      refine QL.val (fun wq hq => Y.indexAddrN Try.underlying53 rfl rfl sz0_recensionref08Elem (by omega)) (by decide) ?_   -- t22 := indexAddr 53 t17 t21
      refine QL.val (fun wq hq => Y.fieldAddr fo_recensionref08Elem2 rfl) (by decide) ?_   -- t23 := fieldAddr 51 t22 2
      refine QL.val (fun wq hq => Y.load1 Try.underlying4 rfl (((hmy.ext hE).ext hq).recensionref08Elem2) rfl) (by decide) ?_   -- t24 := load 4 t23
      refine QL.val (fun wq hq => Y.not rfl) (by decide) ?_   -- t25 := unOp not 4 t24
      refine QL.nil fun w3 hx3 => ?_
      have hz3 := hx3.size
      have hE := hE.thenExt hx3
      refine hK10 _ _ ?_; try clear hK10 K10
      first | refine CW.condD rfl (fun ht11 => ?_) (fun ht11 => ?_) | refine CW.condND rfl (fun ht11 => ?_) (fun ht11 => ?_) | refine CW.condN rfl (fun ht11 => ?_) (fun ht11 => ?_) | refine CW.cond rfl (fun ht11 => ?_) (fun ht11 => ?_)
      · -- then
        refine CW.region ?_   -- region 7
        refine WL.val (Y.move rfl) (by decide) ?_   -- t26 := move t4
        refine WL.val (Y.move rfl) (by decide) ?_   -- t27 := move t3
        refine WL.val (Y.move rfl) (by decide) ?_   -- t28 := move t5
        refine WL.val (Y.indexAddrN Try.underlying43 rfl rfl sz0_int (by omega)) (by decide) ?_   -- t29 := indexAddr 43 t27 t28
        refine WL.val (Y.load1 Try.underlying3 rfl (((hmo.ext hE2).ext hx3).cell0) rfl) (by decide) ?_   -- t30 := load 3 t29
        refine WL.st (St.buildSlice rfl (bs1_int _)) (by decide) fun v31 w4 hR4 => ?_   -- t31 := buildSlice 43 1 [(0,t30)]
        obtain ⟨g31, rfl, hg31, hB31, hx4⟩ := hR4
        have hz4 := hx4.size
        have hE4 := (hE2.thenExt hx3).thenExt hx4
        have hzE := hE.size
        refine WL.st (St.append (m := 1) (news := intC [q]) UI UI ai_int rfl rfl ((hO.ext hx3).ext hx4) (Fw.Src.one hB31 rfl) one_intC (by rw [intC_length]; omega)) (by decide) fun v32 w5 hR5 => ?_   -- t32 := call append(t26, t31) : 43,43
        obtain ⟨hO5, hc5, hf5⟩ := hR5
        have hz5 := hc5.size
        rw [← intC_app] at hO5
        refine WL.val (Y.assign rfl) (by decide) ?_   -- t4 := assign t32
        refine WL.nil ?_
        exact ⟨v32, (by repeat (first | exact Fr.le.nil | refine Fr.le.cons rfl ?_)), (by rw [hts, if_neg (by simp_all)]; exact hO5), (fun b hb => by rcases hf5 with e | e; rw [e] at hb; exact hfr b hb; have := e b hb; omega), hE4.step hc5 (fun b hb => hfr b hb)⟩
      -- else
      refine CW.skip ?_
      exact ⟨u1, (by repeat (first | exact Fr.le.nil | refine Fr.le.cons rfl ?_)), (by rw [hts, if_pos (by simp_all), List.append_nil]; exact hO.ext hx3), hfr, hE2.thenExt hx3⟩
    rintro u w6 hj6
    obtain ⟨hO, hfr, hE2⟩ := hj6
    have hE := hxS.thenExt hE2
    refine CW.region ?_   -- region 5
    refine WL.val (Y.move rfl) (by decide) ?_   -- t12 := move t5
    refine WL.val (Y.add rfl rfl ⟨by omega, by omega⟩) (by decide) ?_   -- t13 := binOp add 3 t12 c(1:i64) 3
    refine WL.val (Y.assign rfl) (by decide) ?_   -- t5 := assign t13
    refine WL.nil ?_
    exact ⟨(k + 1, u), (by show Sm - (k + 1) < Sm - k; omega), (by repeat (first | exact Fr.le.nil | refine Fr.le.cons rfl ?_)), (by show k + 1 ≤ Sm; omega), hO, hfr, hE2⟩
  -- else
  refine CW.exit ?_   -- exit 0
  refine hK4 _ _ ?_; try clear hK4 K4
  refine CW.seq fun K12 hK12 => ?_
  refine CW.region ?_   -- region 8
  refine WL.val (Y.move rfl) (by decide) ?_   -- t33 := move t4
  refine WL.val (Y.assign rfl) (by decide) ?_   -- t2 := assign t33
  refine WL.nil ?_
  refine hK12 _ _ ?_; try clear hK12 K12
  refine CW.ret ⟨_, rfl, ?_⟩
  have hke : (orderE (rels rs)).take k = (orderE (rels rs)) := List.take_of_length_le (by omega)
  rw [hke] at hO
  exact ⟨hO, (fun q hq => by have := hfr q hq; omega), hE⟩
set_option maxRecDepth 100000 in
theorem rref_any (g : Nat) (ad : List Dig) (rs : List Rn) (av ev_ : Value) (n : Int) (w : World) (hR : RtAt w g ad rs av ev_) (hG : Fu.Good (rels rs)) (hn : rs.length ≤ 400001) : Calls Try.prog 44 #[.pointer (some ⟨g, 0, none⟩), .int .i64 n] w (Ret fun v w' => v = .tuple #[refV (refT (rels rs) n).1, .bool (refT (rels rs) n).2] ∧ Ext w w') := by
  obtain ⟨A, m, c, rfl⟩ := hR.es.lens
  have hsl := hR.sl
  have hel : (rels rs).length = rs.length := List.length_map _
  have hmm : rs.length = m ∧ m ≤ c ∧ c ≤ maxLen := by
    obtain ⟨A', m', c', e, h1, h2, h3, _⟩ := hsl
    injection e with e1 e2 e3
    exact ⟨by omega, by omega, by omega⟩
  unfold maxLen at hmm
  have hat : ∀ i x, rs[i]? = some x → ∃ a, A = some a ∧ Mem w (a.add (i * 38)) (rC x) := fun i x hx => hsl.get hx
  have hxe : ∀ (i : Nat) (x : Rn), rs[i]? = some x → (rels rs)[i]? = some x.el := fun i x hx => by rw [List.getElem?_map, hx]; rfl
  have hpos := hG.pos
  obtain ⟨x0, hx0⟩ : ∃ x, rs[0]? = some x := ⟨_, List.getElem?_eq_getElem (by omega)⟩
  obtain ⟨EA, hEA, _⟩ := hat 0 x0 hx0
  subst hEA
  have hme : ∀ i x, rs[i]? = some x → Mem w (EA.add (i * 38)) (rC x) := fun i x hx => by
    obtain ⟨a, ha, h⟩ := hat i x hx
    cases ha; exact h
  have hol : (orderE (rels rs)).length = rs.length := by
    have := hG.perm.length_eq
    rwa [List.length_range, hel] at this
  have hsn : (seenE (rels rs)).length ≤ 400001 := by
    have : (seenE (rels rs)).length ≤ (orderE (rels rs)).length := List.length_filter_le _ _
    omega
  obtain ⟨ir, hir, hzr, hsr⟩ := info_apiRef
  refine calls_of_CWct 29 4 34 [5] [(0, .pointer (some ⟨g, 0, none⟩)), (1, .int .i64 n)] Try.func44 rfl rfl rfl Try.underlying49 rfl (by kernel_rfl) (by simp) args2 ?_
  have hE : Ext w w := Chg.refl
  refine CW.seq fun K1 hK1 => ?_
  refine CW.region ?_   -- region 0
  refine WL.alloc (hir) (hzr) rfl (by decide) fun g4 w1 hx1 hg4 hB4 => ?_   -- t4 := alloc 49
  have hlt4 := hB4.lt; have hz1 := hx1.size
  have hM4 := hB4.mem; have hz1 := hx1.size; have hE := hE.thenExt hx1
  refine WL.val (Y.assign rfl) (by decide) ?_   -- t5 := assign c(false)
  refine WL.nil ?_
  refine hK1 _ _ ?_; try clear hK1 K1
  refine CW.seq fun K2 hK2 => ?_
  refine CW.region ?_   -- region 1
  refine WL.val (Y.move rfl) (by decide) ?_   -- t7 := move t0
  refine WL.call Try.func18 rfl rfl rfl (rseen_any g ad rs av _ _ (hR.ext hE) hG hn) (by simp) ?_; rintro v8 w2 hR2   -- t8 := call F18(t7) : 28
  obtain ⟨hOS, hfS, hxS⟩ := hR2
  have hzS := hxS.size
  obtain ⟨SA, Sm, Sc, rfl⟩ := hOS.lens
  obtain ⟨hlmS, hlgS⟩ := int_map hOS
  have hccS := (hOS.mem SA Sm Sc rfl).2.2.2
  unfold maxLen at hccS
  have hE := hE.thenExt hxS
  have hB4 := hB4.ext hxS
  refine WL.val (Y.assign rfl) (by decide) ?_   -- t6 := assign t8
  refine WL.nil ?_
  refine hK2 _ _ ?_; try clear hK2 K2
  refine CW.seq fun K3 hK3 => ?_
  refine CW.seq_test 16 (n < 0 ∨ (Sm : Int) ≤ n) ?_ ?_
  · refine CW.region ?_
    refine WL.val (Y.move rfl) (by decide) ?_   -- t9 := move t1
    refine WL.val (Y.lss rfl rfl) (by decide) ?_   -- t10 := binOp lss 3 t9 c(0:i64) 3
    refine WL.val (Y.move rfl) (by decide) ?_   -- t11 := move t10
    first | refine WL.casesD (d := 11) rfl (fun hg11 => ?_) (fun hg11 => ?_) | refine WL.casesND (d := 11) rfl (fun hg11 => ?_) (fun hg11 => ?_) | refine WL.cases (d := 11) rfl (fun hg11 => ?_) (fun hg11 => ?_)
    · -- t11 = T
      refine WL.goff rfl rfl (by decide) ?_   -- t12 := move t1 [if 2=false]
      refine WL.goff rfl rfl (by decide) ?_   -- t13 := move t6 [if 2=false]
      refine WL.goff rfl rfl (by decide) ?_   -- t14 := call len(t13) : 43 [if 2=false]
      refine WL.goff rfl rfl (by decide) ?_   -- t15 := binOp geq 3 t12 t14 3 [if 2=false]
      refine WL.val (Y.pick rfl rfl) (by decide) ?_   -- t16 := pick t11 c(true) t15
      refine WL.nil ⟨⟨_, rfl, ?_⟩, rfl, (by repeat (first | exact Fr.le.refl | refine Fr.le.push rfl ?_))⟩
      first | (simp only [*, Int.natCast_inj, Bool.not_eq_true', decide_eq_false_iff_not, decide_eq_true_eq, not_true_eq_false, not_false_eq_true, true_and, false_and, and_true, and_false, false_or, or_false, true_or, or_true, iff_true, true_iff, iff_false, false_iff]; done) | (simp_all; done) | (refine congrArg Value.bool (Bool.eq_iff_iff.2 ?_); simp_all; done) | (simp_all; omega)
    · -- t11 = F
      refine WL.gval rfl rfl (Y.move rfl) (by decide) ?_   -- t12 := move t1 [if 2=false]
      refine WL.gval rfl rfl (Y.move rfl) (by decide) ?_   -- t13 := move t6 [if 2=false]
      refine WL.gval rfl rfl (Y.len_slice Try.underlying43 rfl) (by decide) ?_   -- t14 := call len(t13) : 43 [if 2=false]
      refine WL.gval rfl rfl (Y.geq rfl rfl) (by decide) ?_   -- t15 := binOp geq 3 t12 t14 3 [if 2=false]
      refine WL.val (Y.pick rfl rfl) (by decide) ?_   -- t16 := pick t11 c(true) t15
      refine WL.nil ⟨⟨_, rfl, ?_⟩, rfl, (by repeat (first | exact Fr.le.refl | refine Fr.le.push rfl ?_))⟩
      first | (simp only [*, Int.natCast_inj, Bool.not_eq_true', decide_eq_false_iff_not, decide_eq_true_eq, not_true_eq_false, not_false_eq_true, true_and, false_and, and_true, and_false, false_or, or_false, true_or, or_true, iff_true, true_iff, iff_false, false_iff]; done) | (simp_all; done) | (refine congrArg Value.bool (Bool.eq_iff_iff.2 ?_); simp_all; done) | (simp_all; omega)
  first | refine CW.condD rfl (fun ht4 => ?_) (fun ht4 => ?_) | refine CW.condND rfl (fun ht4 => ?_) (fun ht4 => ?_) | refine CW.condN rfl (fun ht4 => ?_) (fun ht4 => ?_) | refine CW.cond rfl (fun ht4 => ?_) (fun ht4 => ?_)
  · -- then
    refine CW.seq fun K5 hK5 => ?_
    refine CW.region ?_   -- region 3
    refine WL.val (Y.build0 (build_apiRef _)) (by decide) ?_   -- t17 := build 49 []
    refine WL.store (g := g4) (pre := []) (old := refC RefD.zero) (post := []) (new := refC RefD.zero) rfl rfl rfl rfl (sz_apiRef _) (by simpa using hB4) (by simp only [refC_length]) (one_refC) (fun w3 hc3 hB3_ => ?_)   -- _ := store 49 t4 t17
    have hz3 := hc3.size; have hE := hE.step hc3 (fun k h => by omega)
    have hB4 : Blk w3 g4 49 (refC RefD.zero) := by simpa using hB3_
    refine WL.val (Y.assign rfl) (by decide) ?_   -- t5 := assign c(false)
    refine WL.nil ?_
    refine hK5 _ _ ?_; try clear hK5 K5
    refine CW.ret ?_
    exact ⟨_, _, _, rfl, hB4.mem, refC_length _, rfl, ⟨by rw [refT, if_pos (by rw [hlmS]; assumption)], hE⟩⟩
  -- else
  refine CW.skip ?_
  refine hK3 _ _ ?_; try clear hK3 K3
  refine CW.seq fun K6 hK6 => ?_
  obtain ⟨i, rfl⟩ : ∃ i : Nat, n = (i : Int) := ⟨n.toNat, by omega⟩
  obtain ⟨q, hqk⟩ : ∃ q, (seenE (rels rs))[i]? = some q := ⟨_, List.getElem?_eq_getElem (by omega)⟩
  obtain ⟨oa, rfl, hmo⟩ := hlgS i q hqk
  have hql : q < rs.length := by have := seen_lt hG.down (List.mem_of_getElem? hqk); omega
  obtain ⟨y, hy⟩ : ∃ y, rs[q]? = some y := ⟨_, List.getElem?_eq_getElem hql⟩
  have hye := hxe q y hy
  have hmy := hme q y hy
  refine CW.head 11 (by kernel_rfl) (by kernel_rfl) fun w4 hx4 => ?_   -- region 4
  skip; have hz4 := hx4.size; have hE := hE.thenExt hx4; have hB4 := hB4.ext hx4
  refine HL.val (Y.move rfl) (by decide) ?_   -- t18 := move t0
  refine HL.val (Y.nilCheck rfl) (by decide) ?_   -- t19 := nilCheck t18
  refine HL.val (Y.fieldAddr fo_recensionref08Tree1 rfl) (by decide) ?_   -- t20 := fieldAddr 55 t19 1
  refine HL.val (Y.load1 Try.underlying53 rfl ((hR.ext hE).blk.mem.recensionref08Tree1) rfl) (by decide) ?_   -- t21 := load 53 t20
  refine HL.val (Y.move rfl) (by decide) ?_   -- t22 := move t6
  refine HL.val (Y.move rfl) (by decide) ?_   -- t23 := move t1
  refine HL.val (Y.indexAddrN Try.underlying43 rfl rfl sz0_int (by omega)) (by decide) ?_   -- t24 := indexAddr 43 t22 t23
  refine HL.val (Y.load1 Try.underlying3 rfl ((hmo.ext hx4).cell0) rfl) (by decide) ?_   -- t25 := load 3 t24
  refine HL.val (Y.indexAddrN Try.underlying53 rfl rfl sz0_recensionref08Elem (by omega)) (by decide) ?_   -- t26 := indexAddr 53 t21 t25
  refine HL.val (Y.fieldAddr fo_recensionref08Elem0 rfl) (by decide) ?_   -- t27 := fieldAddr 51 t26 0
  refine HL.val (Y.load Try.underlying49 rfl ((hmy.ext hE).recensionref08Elem0) (sz_apiRef _) rfl) (by decide) ?_   -- t28 := load 49 t27
  refine HL.nil ?_
  refine WL.store (g := g4) (pre := []) (old := refC RefD.zero) (post := []) (new := refC y.el.name) rfl rfl rfl rfl (sz_apiRef _) (by simpa using hB4) (by simp only [refC_length]) (one_refC) (fun w5 hc5 hB5_ => ?_)   -- _ := store 49 t4 t28
  have hz5 := hc5.size; have hE := hE.step hc5 (fun k h => by omega)
  have hB4 : Blk w5 g4 49 (refC y.el.name) := by simpa using hB5_
  refine WL.val (Y.assign rfl) (by decide) ?_   -- t5 := assign c(true)
  refine WL.nil ?_
  refine hK6 _ _ ?_; try clear hK6 K6
  refine CW.ret ?_
  exact ⟨_, _, _, rfl, hB4.mem, refC_length _, rfl, ⟨by rw [refT, if_neg (by rw [hlmS]; assumption), show ((i : Int)).toNat = i by omega, hqk]; simp [nm_at hye], hE⟩⟩
theorem rplace_any (g : Nat) (ad : List Dig) (rs : List Rn) (av ev_ : Value) (r : RefD) (w : World) (hR : RtAt w g ad rs av ev_) (hG : Fu.Good (rels rs)) (hn : rs.length ≤ 400001) : Calls Try.prog 45 #[.pointer (some ⟨g, 0, none⟩), refV r] w (Ret fun v w' => v = .tuple #[.int .i64 (placeV (rels rs) r).1, .bool (placeV (rels rs) r).2] ∧ Ext w w') := by
  obtain ⟨A, m, c, rfl⟩ := hR.es.lens
  have hsl := hR.sl
  have hel : (rels rs).length = rs.length := List.length_map _
  have hmm : rs.length = m ∧ m ≤ c ∧ c ≤ maxLen := by
    obtain ⟨A', m', c', e, h1, h2, h3, _⟩ := hsl
    injection e with e1 e2 e3
    exact ⟨by omega, by omega, by omega⟩
  unfold maxLen at hmm
  have hat : ∀ i x, rs[i]? = some x → ∃ a, A = some a ∧ Mem w (a.add (i * 38)) (rC x) := fun i x hx => hsl.get hx
  have hxe : ∀ (i : Nat) (x : Rn), rs[i]? = some x → (rels rs)[i]? = some x.el := fun i x hx => by rw [List.getElem?_map, hx]; rfl
  have hpos := hG.pos
  obtain ⟨x0, hx0⟩ : ∃ x, rs[0]? = some x := ⟨_, List.getElem?_eq_getElem (by omega)⟩
  obtain ⟨EA, hEA, _⟩ := hat 0 x0 hx0
  subst hEA
  have hme : ∀ i x, rs[i]? = some x → Mem w (EA.add (i * 38)) (rC x) := fun i x hx => by
    obtain ⟨a, ha, h⟩ := hat i x hx
    cases ha; exact h
  have hol : (orderE (rels rs)).length = rs.length := by
    have := hG.perm.length_eq
    rwa [List.length_range, hel] at this
  have hsn : (seenE (rels rs)).length ≤ 400001 := by
    have : (seenE (rels rs)).length ≤ (orderE (rels rs)).length := List.length_filter_le _ _
    omega
  obtain ⟨ir, hir, hzr, hsr⟩ := info_apiRef
  refine calls_of_CW 30 [4, 5] [(0, .pointer (some ⟨g, 0, none⟩)), (1, refV r)] Try.func45 rfl rfl rfl (by simp) args2 ?_
  have hE : Ext w w := Chg.refl
  refine CW.seq fun K1 hK1 => ?_
  refine CW.region ?_   -- region 0
  refine WL.box rfl rfl (by decide) fun g3 w1 hx1 hg3 hB3 => ?_   -- t3 := box 49 t1
  have hlt3 := hB3.lt; have hz1 := hx1.size
  have hM3 := hB3.mem; have hz1 := hx1.size; have hE := hE.thenExt hx1
  refine WL.val (Y.assign rfl) (by decide) ?_   -- t4 := assign c(0:i64)
  refine WL.val (Y.assign rfl) (by decide) ?_   -- t5 := assign c(false)
  refine WL.nil ?_
  refine hK1 _ _ ?_; try clear hK1 K1
  refine CW.seq fun K2 hK2 => ?_
  refine CW.region ?_   -- region 1
  refine WL.val (Y.move rfl) (by decide) ?_   -- t8 := move t0
  refine WL.call Try.func18 rfl rfl rfl (rseen_any g ad rs av _ _ (hR.ext hE) hG hn) (by simp) ?_; rintro v9 w2 hR2   -- t9 := call F18(t8) : 28
  obtain ⟨hOS, hfS, hxS⟩ := hR2
  have hzS := hxS.size
  obtain ⟨SA, Sm, Sc, rfl⟩ := hOS.lens
  obtain ⟨hlmS, hlgS⟩ := int_map hOS
  have hccS := (hOS.mem SA Sm Sc rfl).2.2.2
  unfold maxLen at hccS
  have hE := hE.thenExt hxS
  have hB3 := hB3.ext hxS
  refine WL.val (Y.assign rfl) (by decide) ?_   -- t6 := assign t9
  refine WL.nil ?_
  refine hK2 _ _ ?_; try clear hK2 K2
  refine CW.seq fun K3 hK3 => ?_
  refine CW.seq fun K4 hK4 => ?_
  refine CW.region ?_   -- region 2
  refine WL.val (Y.assign rfl) (by decide) ?_   -- t7 := assign c(0:i64)
  refine WL.nil ?_
  refine hK4 _ _ ?_; try clear hK4 K4
  refine CW.block ?_   -- block 0
  refine CW.loop (X := Nat) (fun x => [(0, .pointer (some ⟨g, 0, none⟩)), (3, .pointer (some ⟨g3, 0, none⟩)), (6, .slice SA Sm Sc), (7, .int .i64 (x : Int))]) (fun x w0 => x ≤ Sm ∧ (∀ (t p : Nat), t < x → (seenE (rels rs))[t]? = some p → nm (rels rs) p ≠ r) ∧ Ext w2 w0) (fun x => Sm - x) 0 (by repeat (first | exact Fr.le.nil | refine Fr.le.cons rfl ?_)) ⟨Nat.zero_le _, (fun t p h => by omega), Chg.refl⟩ ?_
  intro x w3 hl3
  obtain ⟨hkm, hno, hL⟩ := hl3
  have hE := hE.thenExt hL
  have hB3 := hB3.ext hL
  refine CW.seq fun K5 hK5 => ?_
  refine CW.seq fun K6 hK6 => ?_
  refine CW.region ?_   -- region 3
  refine WL.val (Y.move rfl) (by decide) ?_   -- t10 := move t7
  refine WL.val (Y.move rfl) (by decide) ?_   -- t11 := move t6
  refine WL.val (Y.len_slice Try.underlying43 rfl) (by decide) ?_   -- t12 := call len(t11) : 43
  refine WL.val (Y.lss rfl rfl) (by decide) ?_   -- t13 := binOp lss 3 t10 t12 3
  refine WL.nil ?_
  refine hK6 _ _ ?_; try clear hK6 K6
  first | refine CW.condD rfl (fun ht7 => ?_) (fun ht7 => ?_) | refine CW.condND rfl (fun ht7 => ?_) (fun ht7 => ?_) | refine CW.condN rfl (fun ht7 => ?_) (fun ht7 => ?_) | refine CW.cond rfl (fun ht7 => ?_) (fun ht7 => ?_)
  · -- then
    refine CW.skip ?_
    refine hK5 _ _ ?_; try clear hK5 K5
    refine CW.seq fun K8 hK8 => ?_
    refine CW.block ?_   -- block 1
    refine CW.seq fun K9 hK9 => ?_
    obtain ⟨q, hqk⟩ : ∃ q, (seenE (rels rs))[x]? = some q := ⟨_, List.getElem?_eq_getElem (by omega)⟩
    obtain ⟨oa, rfl, hmo⟩ := hlgS x q hqk
    have hql : q < rs.length := by have := seen_lt hG.down (List.mem_of_getElem? hqk); omega
    obtain ⟨y, hy⟩ : ∃ y, rs[q]? = some y := ⟨_, List.getElem?_eq_getElem hql⟩
    have hye := hxe q y hy
    have hmy := hme q y hy
    refine CW.quiet (fun wq => Ext w3 wq) (by kernel_rfl) (by kernel_rfl) Chg.drew ?_
    refine QL.val (fun wq hq => Y.move rfl) (by decide) ?_   -- t16 := move t0
    refine QL.val (fun wq hq => Y.nilCheck rfl) (by decide) ?_   -- t17 := nilCheck t16
    refine QL.val (fun wq hq => Y.fieldAddr fo_recensionref08Tree1 rfl) (by decide) ?_   -- t18 := fieldAddr 55 t17 1
    refine QL.val (fun wq hq => Y.load1 Try.underlying53 rfl (((hR.ext hE).ext hq).blk.mem.recensionref08Tree1) rfl) (by decide) ?_   -- t19 := load 53 t18
    refine QL.val (fun wq hq => Y.move rfl) (by decide) ?_   -- t20 := move t6
    refine QL.val (fun wq hq => Y.move rfl) (by decide) ?_   -- t21 := move t7
    refine QL.val (fun wq hq => Y.indexAddrN Try.underlying43 rfl rfl sz0_int (by omega)) (by decide) ?_   -- t22 := indexAddr 43 t20 t21
    refine QL.val (fun wq hq => Y.load1 Try.underlying3 rfl (((hmo.ext hL).ext hq).cell0) rfl) (by decide) ?_   -- t23 := load 3 t22
    refine QL.val (fun wq hq => Y.indexAddrN Try.underlying53 rfl rfl sz0_recensionref08Elem (by omega)) (by decide) ?_   -- t24 := indexAddr 53 t19 t23
    refine QL.val (fun wq hq => Y.fieldAddr fo_recensionref08Elem0 rfl) (by decide) ?_   -- t25 := fieldAddr 51 t24 0
    refine QL.val (fun wq hq => Y.load Try.underlying49 rfl (((hmy.ext hE).ext hq).recensionref08Elem0) (sz_apiRef _) rfl) (by decide) ?_   -- t26 := load 49 t25
    refine QL.val (fun wq hq => Y.load Try.underlying49 rfl (hB3.ext hq).mem (sz_apiRef _) rfl) (by decide) ?_   -- t27 := load 49 t3
    refine QL.val (fun wq hq => Y.eql_apiRef rfl rfl) (by decide) ?_   -- t28 := binOp eql 49 t26 t27 49
    refine QL.nil fun w4 hx4 => ?_
    have hz4 := hx4.size
    have hE := hE.thenExt hx4
    have hB3 := hB3.ext hx4
    refine hK9 _ _ ?_; try clear hK9 K9
    first | refine CW.condD rfl (fun ht10 => ?_) (fun ht10 => ?_) | refine CW.condND rfl (fun ht10 => ?_) (fun ht10 => ?_) | refine CW.condN rfl (fun ht10 => ?_) (fun ht10 => ?_) | refine CW.cond rfl (fun ht10 => ?_) (fun ht10 => ?_)
    · -- then
      refine CW.seq fun K11 hK11 => ?_
      refine CW.region ?_   -- region 6
      refine WL.val (Y.move rfl) (by decide) ?_   -- t29 := move t7
      refine WL.val (Y.assign rfl) (by decide) ?_   -- t4 := assign t29
      refine WL.val (Y.assign rfl) (by decide) ?_   -- t5 := assign c(true)
      refine WL.nil ?_
      refine hK11 _ _ ?_; try clear hK11 K11
      refine CW.ret ⟨_, rfl, ?_⟩
      exact ⟨by rw [place_some hqk (by rw [nm_at hye]; assumption) hno], hE⟩
    -- else
    refine CW.skip ?_
    refine hK8 _ _ ?_; try clear hK8 K8
    refine CW.region ?_   -- region 4
    refine WL.val (Y.move rfl) (by decide) ?_   -- t14 := move t7
    refine WL.val (Y.add rfl rfl ⟨by omega, by omega⟩) (by decide) ?_   -- t15 := binOp add 3 t14 c(1:i64) 3
    refine WL.val (Y.assign rfl) (by decide) ?_   -- t7 := assign t15
    refine WL.nil ?_
    exact ⟨x + 1, (by show Sm - (x + 1) < Sm - x; omega), (by repeat (first | exact Fr.le.nil | refine Fr.le.cons rfl ?_)), (by show x + 1 ≤ Sm; omega), (fun t p ht hp => by
      by_cases e : t = x
      · subst e; rw [hqk] at hp; cases hp; rw [nm_at hye]; assumption
      · exact hno t p (by omega) hp), hL.thenExt hx4⟩
  -- else
  refine CW.exit ?_   -- exit 0
  refine hK3 _ _ ?_; try clear hK3 K3
  refine CW.seq fun K12 hK12 => ?_
  refine CW.region ?_   -- region 7
  refine WL.val (Y.assign rfl) (by decide) ?_   -- t4 := assign c(0:i64)
  refine WL.val (Y.assign rfl) (by decide) ?_   -- t5 := assign c(false)
  refine WL.nil ?_
  refine hK12 _ _ ?_; try clear hK12 K12
  refine CW.ret ⟨_, rfl, ?_⟩
  exact ⟨by rw [place_none (fun t p ht hp => hno t p (by omega) hp)], hE⟩
theorem rhas_any (g : Nat) (ad : List Dig) (rs : List Rn) (av ev_ : Value) (r : RefD) (w : World) (hR : RtAt w g ad rs av ev_) (hG : Fu.Good (rels rs)) (hn : rs.length ≤ 400001) : Calls Try.prog 46 #[.pointer (some ⟨g, 0, none⟩), refV r] w (Ret fun v w' => v = .bool (hasE (rels rs) r) ∧ Ext w w') := by
  refine calls_of_CW 9 [4] [(0, .pointer (some ⟨g, 0, none⟩)), (1, refV r)] Try.func46 rfl rfl rfl (by simp) args2 ?_
  have hE : Ext w w := Chg.refl
  refine CW.seq fun K1 hK1 => ?_
  refine CW.region ?_   -- region 0
  refine WL.box rfl rfl (by decide) fun g3 w1 hx1 hg3 hB3 => ?_   -- t3 := box 49 t1
  have hlt3 := hB3.lt; have hz1 := hx1.size
  have hM3 := hB3.mem; have hz1 := hx1.size; have hE := hE.thenExt hx1
  refine WL.val (Y.assign rfl) (by decide) ?_   -- t4 := assign c(false)
  refine WL.nil ?_
  refine hK1 _ _ ?_; try clear hK1 K1
  refine CW.seq fun K2 hK2 => ?_
  refine CW.region ?_   -- region 1
  refine WL.val (Y.move rfl) (by decide) ?_   -- t5 := move t0
  refine WL.val (Y.load Try.underlying49 rfl hB3.mem (sz_apiRef _) rfl) (by decide) ?_   -- t6 := load 49 t3
  refine WL.call Try.func50 rfl rfl rfl (rfind_any g ad rs av ev_ r _ (hR.ext hE) hn) (by simp) ?_; rintro v w2 ⟨rfl, hx2⟩; have hz2 := hx2.size; have hE := hE.thenExt hx2; have hB3 := hB3.ext hx2   -- t7 := call F50(t5, t6) : 28,49
  refine WL.val (Y.gtr rfl rfl) (by decide) ?_   -- t8 := binOp gtr 3 t7 c(0:i64) 3
  refine WL.val (Y.assign rfl) (by decide) ?_   -- t4 := assign t8
  refine WL.nil ?_
  refine hK2 _ _ ?_; try clear hK2 K2
  refine CW.ret ⟨_, rfl, ?_⟩
  exact ⟨by rw [hasE, findV]; cases atE (rels rs) r <;> simp <;> omega, hE⟩
end Go.Proofs.Ytffkmlkdlhkkmaa
