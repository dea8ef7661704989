/- FugueGaps, walked. No condition. -/
import Derived.Test.YtffkmlkdlhkkmaaFj
set_option linter.unusedSimpArgs false
set_option linter.unusedVariables false
namespace Go.Fw
theorem Y.neq_bool {P : Program} {n : NN} {fr : Fr} {w : World} {ty : TypeId} {x y : Operand} {p q : Bool} {t t' : TypeId} (hT : P.underlying t = some .bool) (hx : ev fr x = some (.bool p)) (hy : ev fr y = some (.bool q)) :
    Yw P n fr (.binOp .neq t x y t') ty w (.bool (p != q)) w := Y.bin hx hy (by simp [eqGuard_at_bool]) (by
      have h := run_eql_bool (P := P) w t p q hT
      simp only [binOp, Sem.run_bind] at h ⊢
      cases hr : (Op.equal t (Value.bool p) (Value.bool q)).run P w with
      | ok v w2 => rw [hr] at h; simp at h ⊢; obtain ⟨h1, h2⟩ := h; subst h1; subst h2; simp [bne]
      | halt x w2 => rw [hr] at h; simp [Result.andThen] at h)
end Go.Fw
namespace Go.Proofs.Ytffkmlkdlhkkmaa
open Go.RowKit Go.Fw Go.Fu Go.Pl
theorem refT_in {e : List El} {k i : Nat} (h : (seenE e)[k]? = some i) : refT e k = (nm e i, true) := by
  have hl := (List.getElem?_eq_some_iff.1 h).1
  rw [refT, if_neg (by omega)]
  simp [h]
/-- An element's place, and back. -/
theorem ref_place {e : List El} (hG : Fu.Good e) (n : Int) : (placeV e (refT e n).1).2 = (refT e n).2 ∧ ((refT e n).2 = true → (placeV e (refT e n).1).1 = n) := by
  by_cases h : n < 0 ∨ ((seenE e).length : Int) ≤ n
  · have hr : refT e n = (RefD.zero, false) := by rw [refT, if_pos h]
    rw [hr, place_none fun t p _ hp hz => ?_]
    · exact ⟨rfl, fun h => by cases h⟩
    · have hm := List.mem_of_getElem? hp
      have h0 := hG.seen_pos hm
      have hl := seen_lt hG.down hm
      obtain ⟨x, hx⟩ : ∃ x, e[p]? = some x := ⟨_, List.getElem?_eq_getElem hl⟩
      rw [nm_at hx] at hz
      have := (hG.zero hx).1 hz
      omega
  · obtain ⟨i, rfl⟩ : ∃ i : Nat, n = (i : Int) := ⟨n.toNat, by omega⟩
    obtain ⟨q, hq⟩ : ∃ q, (seenE e)[i]? = some q := ⟨_, List.getElem?_eq_getElem (by omega)⟩
    have hr := refT_in hq
    rw [hr, place_some hq rfl fun t p ht hp hn => ?_]
    · exact ⟨rfl, fun _ => rfl⟩
    · have hql := seen_lt hG.down (List.mem_of_getElem? hq)
      have hpl := seen_lt hG.down (List.mem_of_getElem? hp)
      obtain ⟨x, hx⟩ : ∃ x, e[q]? = some x := ⟨_, List.getElem?_eq_getElem hql⟩
      obtain ⟨y, hy⟩ : ∃ x, e[p]? = some x := ⟨_, List.getElem?_eq_getElem hpl⟩
      rw [nm_at hx, nm_at hy] at hn
      have e1 := hG.inj hy hx hn
      subst e1
      have h1 := List.getElem?_eq_some_iff.1 hp
      have h2 := List.getElem?_eq_some_iff.1 hq
      exact absurd (h1.2.trans h2.2.symm) (List.pairwise_iff_getElem.1 hG.seen_nodup t i h1.1 h2.1 ht)
theorem built_act (parts : List (Nat × Value)) : Try.prog.built TAc parts = Instr.fill (fun i => #[(0, 1), (1, 1), (2, 33), (35, 1), (36, 34)][i]?) (actC ⟨0, false, CmV.zero, 0, RefD.zero⟩).toArray parts := by kernel_rfl
theorem build_act (k n : Int) (w : World) : (Instr.build TAc [(0, Value.int .i64 k), (3, Value.int .i64 n)].toArray).run Try.prog w = .ok (.agg (actC ⟨k, false, CmV.zero, n, RefD.zero⟩).toArray) w := run_build w _ _ _ (by
  show Try.prog.built _ [(0, Value.int .i64 k), (3, Value.int .i64 n)] = _
  rw [built_act]
  have e0 : actC ⟨0, false, CmV.zero, 0, RefD.zero⟩ = [] ++ [Value.int .i64 0] ++ ([Value.bool false] ++ cmC CmV.zero ++ [Value.int .i64 0] ++ refC RefD.zero) := rfl
  rw [e0, fill_step [] [Value.int .i64 0] ([Value.bool false] ++ cmC CmV.zero ++ [Value.int .i64 0] ++ refC RefD.zero) [Value.int .i64 k] rfl rfl rfl rfl]
  have e1 : [] ++ [Value.int .i64 k] ++ ([Value.bool false] ++ cmC CmV.zero ++ [Value.int .i64 0] ++ refC RefD.zero) = ([Value.int .i64 k, Value.bool false] ++ cmC CmV.zero) ++ [Value.int .i64 0] ++ refC RefD.zero := by simp
  rw [e1, fill_step ([Value.int .i64 k, Value.bool false] ++ cmC CmV.zero) [Value.int .i64 0] (refC RefD.zero) [Value.int .i64 n] rfl rfl rfl (by rw [List.length_append, cmC_length]; rfl), Instr.fill]
  simp [actC])
theorem doesQ_any (g rb ra : Nat) (ns : List Nn) (gr : Nat) (rs : List Rn) (av ev_ : Value) (L : Coms) (T : Tr) (k n : Int) (hk : k ≠ 0) (w : World) (hP : Two8 w g rb ra ns gr rs av ev_ L T) (hfew : T.ad.length < 4398046511104) : Calls Try.prog 28 #[.pointer (some ⟨g, 0, none⟩), .pointer (some ⟨gr, 0, none⟩), .agg (actC ⟨k, false, CmV.zero, n, RefD.zero⟩).toArray] w (Ret fun v w' => v = .bool true ∧ Ext w w') :=
  (does_any g rb ra ns gr rs av ev_ L T ⟨k, false, CmV.zero, n, RefD.zero⟩ w hP hfew Sl.nil (by show 0 * 72 ≤ _; omega) (fun h => absurd rfl h)).mono fun e w' hr => by
    cases e with
    | returned u => exact ⟨hr.1, hr.2.1 hk⟩
    | panicked c => exact hr
    | outgrown => exact hr

set_option maxRecDepth 100000 in
set_option maxHeartbeats 4000000 in
theorem gaps_any (u : Value) (l : List CmV) (n : Int) (w : World) (hl : Cms w u l) : Calls Try.prog 8 #[u, .int .i64 n] w (Ret fun v w' => v = .bool true ∧ Ext w w') := by
  obtain ⟨A, m, c, rfl, hm, hmc, hcm, _⟩ := _root_.id hl.sl
  unfold maxLen at hcm
  have hcf := hl.few
  refine calls_of_CW 79 [4] [(0, .slice A m c), (1, .int .i64 n)] Try.func8 rfl rfl rfl (by simp) args2 ?_
  have hE : Ext w w := Chg.refl
  refine CW.seq fun K1 hK1 => ?_
  refine CW.region ?_   -- region 0
  refine WL.val (Y.assign rfl) (by decide) ?_   -- t4 := assign c(false)
  refine WL.nil ?_
  refine hK1 _ _ ?_; try clear hK1 K1
  refine CW.seq fun K2 hK2 => ?_
  refine CW.region ?_   -- region 1
  refine WL.val (Y.move rfl) (by decide) ?_   -- t14 := move t0
  refine WL.call Try.func11 rfl rfl rfl (grown_any _ l _ hl) (by simp) ?_; rintro v15 w1 hR1   -- t15 := call F11(t14) : 22
  obtain ⟨g, rb, ra, ns, gr, rs, av, ev_, L, T, rfl, hA⟩ := hR1
  have hz1 := hA.ext.size
  have hE := hE.thenExt hA.ext
  have hP1 := hA.two
  have hok := hA.ok
  have hfe := hA.fe
  have hre := hA.re
  have hG : Fu.Good (Fw.els ns) := by rw [hfe]; exact hok.good
  have hGr : Fu.Good (rels rs) := by rw [hre]; exact hok.good
  have hel : (Fw.els ns).length = ns.length := List.length_map _
  have hel2 : (rels rs).length = rs.length := List.length_map _
  have hn5 : ns.length ≤ 400001 := by rw [← hel, hfe]; exact hok.few
  have hn6 : rs.length ≤ 400001 := by rw [← hel2, hre]; exact hok.few
  have hlv : (seenE T.e).length = liveN ns := by rw [← hfe]; exact hG.seen_length
  have hln : liveN ns ≤ ns.length := by
    have := List.countP_le_length (p := fun x : El => !x.gone) (l := Fw.els ns)
    rwa [hel] at this
  have hfew := hA.few
  have hfew : T.ad.length < 4398046511104 := by omega
  refine WL.val (Y.move rfl) (by decide) ?_   -- t13 := move t15
  refine WL.val (Y.extract rfl rfl) (by decide) ?_   -- t16 := extract t13 0
  refine WL.val (Y.extract rfl rfl) (by decide) ?_   -- t17 := extract t13 1
  refine WL.val (Y.extract rfl rfl) (by decide) ?_   -- t18 := extract t13 2
  refine WL.val (Y.assign rfl) (by decide) ?_   -- t5 := assign t16
  refine WL.val (Y.assign rfl) (by decide) ?_   -- t6 := assign t17
  refine WL.val (Y.assign rfl) (by decide) ?_   -- t7 := assign t18
  refine WL.nil ?_
  refine hK2 _ _ ?_; try clear hK2 K2
  refine CW.seq fun K3 hK3 => ?_
  refine CW.seq_testE 24 (False) ?_ ?_
  · refine CW.region ?_
    refine WL.val (Y.move rfl) (by decide) ?_   -- t19 := move t7
    refine WL.val (Y.not rfl) (by decide) ?_   -- t20 := unOp not 4 t19
    refine WL.val (Y.move rfl) (by decide) ?_   -- t21 := move t20
    first | refine WL.casesD (d := 21) rfl (fun hg21 => ?_) (fun hg21 => ?_) | refine WL.casesND (d := 21) rfl (fun hg21 => ?_) (fun hg21 => ?_) | refine WL.cases (d := 21) rfl (fun hg21 => ?_) (fun hg21 => ?_)
    · -- t21 = T
      refine WL.goff rfl rfl (by decide) ?_   -- t22 := call F12() :  [if 2=false]
      refine WL.goff rfl rfl (by decide) ?_   -- t23 := unOp not 4 t22 [if 2=false]
      refine WL.val (Y.pick rfl rfl) (by decide) ?_   -- t24 := pick t21 c(true) t23
      refine WL.nil ⟨⟨_, rfl, ?_⟩, Chg.refl, (by repeat (first | exact Fr.le.refl | refine Fr.le.push rfl ?_))⟩
      first | (simp only [*, Int.natCast_inj, Bool.not_eq_true', decide_eq_false_iff_not, decide_eq_true_eq, not_true_eq_false, not_false_eq_true, true_and, false_and, and_true, and_false, false_or, or_false, true_or, or_true, iff_true, true_iff, iff_false, false_iff]; done) | (simp_all; done) | (refine congrArg Value.bool (Bool.eq_iff_iff.2 ?_); simp_all; done) | (simp_all; omega)
    · -- t21 = F
      refine WL.gcall rfl rfl Try.func12 rfl rfl rfl (alive_any _) (by decide) ?_; rintro v w2 ⟨rfl, hx2⟩; have hz2 := hx2.size; have hE := hE.thenExt hx2   -- t22 := call F12() :  [if 2=false]
      refine WL.gval rfl rfl (Y.not rfl) (by decide) ?_   -- t23 := unOp not 4 t22 [if 2=false]
      refine WL.val (Y.pick rfl rfl) (by decide) ?_   -- t24 := pick t21 c(true) t23
      refine WL.nil ⟨⟨_, rfl, ?_⟩, hx2, (by repeat (first | exact Fr.le.refl | refine Fr.le.push rfl ?_))⟩
      first | (simp only [*, Int.natCast_inj, Bool.not_eq_true', decide_eq_false_iff_not, decide_eq_true_eq, not_true_eq_false, not_false_eq_true, true_and, false_and, and_true, and_false, false_or, or_false, true_or, or_true, iff_true, true_iff, iff_false, false_iff]; done) | (simp_all; done) | (refine congrArg Value.bool (Bool.eq_iff_iff.2 ?_); simp_all; done) | (simp_all; omega)
  intro w3 hx3; have hz3 := hx3.size; have hE := hE.thenExt hx3
  first | refine CW.condD rfl (fun ht4 => ?_) (fun ht4 => ?_) | refine CW.condND rfl (fun ht4 => ?_) (fun ht4 => ?_) | refine CW.condN rfl (fun ht4 => ?_) (fun ht4 => ?_) | refine CW.cond rfl (fun ht4 => ?_) (fun ht4 => ?_)
  · -- then
    refine CW.seq fun K5 hK5 => ?_
    refine CW.region ?_   -- region 3
    refine WL.val (Y.assign rfl) (by decide) ?_   -- t4 := assign c(false)
    refine WL.nil ?_
    refine hK5 _ _ ?_; try clear hK5 K5
    refine CW.ret ⟨_, rfl, ?_⟩
    exact False.elim (by assumption)
  -- else
  refine CW.skip ?_
  refine hK3 _ _ ?_; try clear hK3 K3
  refine CW.seq fun K6 hK6 => ?_
  refine CW.seq fun K7 hK7 => ?_
  refine CW.region ?_   -- region 4
  refine WL.val (Y.assign rfl) (by decide) ?_   -- t8 := assign c(-1:i64)
  refine WL.nil ?_
  refine hK7 _ _ ?_; try clear hK7 K7
  refine CW.block ?_   -- block 0
  refine CW.loop (X := Nat) (fun x => [(1, .int .i64 n), (5, .pointer (some ⟨g, 0, none⟩)), (6, .pointer (some ⟨gr, 0, none⟩)), (8, .int .i64 ((x : Int) - 1))]) (fun x w0 => x ≤ 301 ∧ Ext w3 w0) (fun x => 302 - x) 0 (by repeat (first | exact Fr.le.nil | refine Fr.le.cons rfl ?_)) ⟨Nat.zero_le _, Chg.refl⟩ ?_
  intro x w4 hl4
  obtain ⟨hxm, hL⟩ := hl4
  have hE := hE.thenExt hL
  have hP4 : Two8 w4 g rb ra ns gr rs av ev_ L T := (hP1.ext hx3).ext hL
  obtain ⟨i, hi⟩ : ∃ i, i = (x : Int) - 1 := ⟨_, rfl⟩
  have hrp := ref_place (e := T.e) hok.good ((x : Int) - 1)
  refine CW.seq fun K8 hK8 => ?_
  refine CW.seq_testE 34 ((x : Int) - 1 ≤ (liveN ns : Int) + 1 ∧ (x : Int) - 1 < 300) ?_ ?_
  · refine CW.region ?_
    refine WL.val (Y.move rfl) (by decide) ?_   -- t25 := move t8
    refine WL.val (Y.move rfl) (by decide) ?_   -- t26 := move t6
    refine WL.call Try.func18 rfl rfl rfl ((by have h9 := rseen_any gr _ rs av ev_ _ hP4.rt hGr hn6; rw [hre] at h9; exact h9)) (by simp) ?_; rintro v27 w5 hR5   -- t27 := call F18(t26) : 28
    obtain ⟨hO5, _, hxS⟩ := hR5
    have hzS := hxS.size
    obtain ⟨SA, sm, sc, rfl⟩ := hO5.lens
    obtain ⟨hsm, _⟩ := int_map hO5
    have hsl : sm = liveN ns := by omega
    subst hsl
    refine WL.val (Y.len_slice Try.underlying43 rfl) (by decide) ?_   -- t28 := call len(t27) : 43
    refine WL.val (Y.add rfl rfl ⟨by omega, by omega⟩) (by decide) ?_   -- t29 := binOp add 3 t28 c(1:i64) 3
    refine WL.val (Y.leq rfl rfl) (by decide) ?_   -- t30 := binOp leq 3 t25 t29 3
    refine WL.val (Y.move rfl) (by decide) ?_   -- t31 := move t30
    first | refine WL.casesD (d := 31) rfl (fun hg31 => ?_) (fun hg31 => ?_) | refine WL.casesND (d := 31) rfl (fun hg31 => ?_) (fun hg31 => ?_) | refine WL.cases (d := 31) rfl (fun hg31 => ?_) (fun hg31 => ?_)
    · -- t31 = T
      refine WL.gval rfl rfl (Y.move rfl) (by decide) ?_   -- t32 := move t8 [if 6=true]
      refine WL.gval rfl rfl (Y.lss rfl rfl) (by decide) ?_   -- t33 := binOp lss 3 t32 c(300:i64) 3 [if 6=true]
      refine WL.val (Y.pick rfl rfl) (by decide) ?_   -- t34 := pick t31 t33 c(false)
      refine WL.nil ⟨⟨_, rfl, ?_⟩, hxS, (by repeat (first | exact Fr.le.refl | refine Fr.le.push rfl ?_))⟩
      first | (simp only [*, Int.natCast_inj, Bool.not_eq_true', decide_eq_false_iff_not, decide_eq_true_eq, not_true_eq_false, not_false_eq_true, true_and, false_and, and_true, and_false, false_or, or_false, true_or, or_true, iff_true, true_iff, iff_false, false_iff]; done) | (simp_all; done) | (refine congrArg Value.bool (Bool.eq_iff_iff.2 ?_); simp_all; done) | (simp_all; omega)
    · -- t31 = F
      refine WL.goff rfl rfl (by decide) ?_   -- t32 := move t8 [if 6=true]
      refine WL.goff rfl rfl (by decide) ?_   -- t33 := binOp lss 3 t32 c(300:i64) 3 [if 6=true]
      refine WL.val (Y.pick rfl rfl) (by decide) ?_   -- t34 := pick t31 t33 c(false)
      refine WL.nil ⟨⟨_, rfl, ?_⟩, hxS, (by repeat (first | exact Fr.le.refl | refine Fr.le.push rfl ?_))⟩
      first | (simp only [*, Int.natCast_inj, Bool.not_eq_true', decide_eq_false_iff_not, decide_eq_true_eq, not_true_eq_false, not_false_eq_true, true_and, false_and, and_true, and_false, false_or, or_false, true_or, or_true, iff_true, true_iff, iff_false, false_iff]; done) | (simp_all; done) | (refine congrArg Value.bool (Bool.eq_iff_iff.2 ?_); simp_all; done) | (simp_all; omega)
  intro w6 hx6; have hz6 := hx6.size; have hE := hE.thenExt hx6
  first | refine CW.condD rfl (fun ht9 => ?_) (fun ht9 => ?_) | refine CW.condND rfl (fun ht9 => ?_) (fun ht9 => ?_) | refine CW.condN rfl (fun ht9 => ?_) (fun ht9 => ?_) | refine CW.cond rfl (fun ht9 => ?_) (fun ht9 => ?_)
  · -- then
    refine CW.skip ?_
    refine hK8 _ _ ?_; try clear hK8 K8
    refine CW.seq fun K10 hK10 => ?_
    refine CW.block ?_   -- block 1
    refine CW.seq fun K11 hK11 => ?_
    refine CW.seq_testE 50 (False) ?_ ?_
    · refine CW.region ?_
      refine WL.val (Y.move rfl) (by decide) ?_   -- t37 := move t5
      refine WL.val (Y.move rfl) (by decide) ?_   -- t38 := move t6
      refine WL.val (Y.move rfl) (by decide) ?_   -- t39 := move t8
      refine WL.val (Y.build rfl (build_act 2 _ _)) (by decide) ?_   -- t40 := build 75 [(0,c(2:i64)), (3,t39)]
      refine WL.call Try.func28 rfl rfl rfl (doesQ_any g rb ra ns gr rs av ev_ L T 2 _ (by decide) _ (hP4.ext hx6) hfew) (by simp) ?_; rintro v w7 ⟨rfl, hx7⟩; have hz7 := hx7.size; have hE := hE.thenExt hx7   -- t41 := call F28(t37, t38, t40) : 27,28,75
      refine WL.val (Y.not rfl) (by decide) ?_   -- t42 := unOp not 4 t41
      refine WL.val (Y.move rfl) (by decide) ?_   -- t43 := move t42
      first | refine WL.casesD (d := 43) rfl (fun hg43 => ?_) (fun hg43 => ?_) | refine WL.casesND (d := 43) rfl (fun hg43 => ?_) (fun hg43 => ?_) | refine WL.cases (d := 43) rfl (fun hg43 => ?_) (fun hg43 => ?_)
      · -- t43 = T
        refine WL.goff rfl rfl (by decide) ?_   -- t44 := move t5 [if 6=false]
        refine WL.goff rfl rfl (by decide) ?_   -- t45 := move t6 [if 6=false]
        refine WL.goff rfl rfl (by decide) ?_   -- t46 := move t8 [if 6=false]
        refine WL.goff rfl rfl (by decide) ?_   -- t47 := build 75 [(0,c(4:i64)), (3,t46)] [if 6=false]
        refine WL.goff rfl rfl (by decide) ?_   -- t48 := call F28(t44, t45, t47) : 27,28,75 [if 6=false]
        refine WL.goff rfl rfl (by decide) ?_   -- t49 := unOp not 4 t48 [if 6=false]
        refine WL.val (Y.pick rfl rfl) (by decide) ?_   -- t50 := pick t43 c(true) t49
        refine WL.nil ⟨⟨_, rfl, ?_⟩, hx7, (by repeat (first | exact Fr.le.refl | refine Fr.le.push rfl ?_))⟩
        first | (simp only [*, Int.natCast_inj, Bool.not_eq_true', decide_eq_false_iff_not, decide_eq_true_eq, not_true_eq_false, not_false_eq_true, true_and, false_and, and_true, and_false, false_or, or_false, true_or, or_true, iff_true, true_iff, iff_false, false_iff]; done) | (simp_all; done) | (refine congrArg Value.bool (Bool.eq_iff_iff.2 ?_); simp_all; done) | (simp_all; omega)
      · -- t43 = F
        refine WL.gval rfl rfl (Y.move rfl) (by decide) ?_   -- t44 := move t5 [if 6=false]
        refine WL.gval rfl rfl (Y.move rfl) (by decide) ?_   -- t45 := move t6 [if 6=false]
        refine WL.gval rfl rfl (Y.move rfl) (by decide) ?_   -- t46 := move t8 [if 6=false]
        refine WL.gval rfl rfl (Y.build rfl (build_act 4 _ _)) (by decide) ?_   -- t47 := build 75 [(0,c(4:i64)), (3,t46)] [if 6=false]
        refine WL.gcall rfl rfl Try.func28 rfl rfl rfl (doesQ_any g rb ra ns gr rs av ev_ L T 4 _ (by decide) _ ((hP4.ext hx6).ext hx7) hfew) (by decide) ?_; rintro v w8 ⟨rfl, hx8⟩; have hz8 := hx8.size; have hE := hE.thenExt hx8   -- t48 := call F28(t44, t45, t47) : 27,28,75 [if 6=false]
        refine WL.gval rfl rfl (Y.not rfl) (by decide) ?_   -- t49 := unOp not 4 t48 [if 6=false]
        refine WL.val (Y.pick rfl rfl) (by decide) ?_   -- t50 := pick t43 c(true) t49
        refine WL.nil ⟨⟨_, rfl, ?_⟩, (hx7.thenExt hx8), (by repeat (first | exact Fr.le.refl | refine Fr.le.push rfl ?_))⟩
        first | (simp only [*, Int.natCast_inj, Bool.not_eq_true', decide_eq_false_iff_not, decide_eq_true_eq, not_true_eq_false, not_false_eq_true, true_and, false_and, and_true, and_false, false_or, or_false, true_or, or_true, iff_true, true_iff, iff_false, false_iff]; done) | (simp_all; done) | (refine congrArg Value.bool (Bool.eq_iff_iff.2 ?_); simp_all; done) | (simp_all; omega)
    intro w9 hx9; have hz9 := hx9.size; have hE := hE.thenExt hx9
    first | refine CW.condD rfl (fun ht12 => ?_) (fun ht12 => ?_) | refine CW.condND rfl (fun ht12 => ?_) (fun ht12 => ?_) | refine CW.condN rfl (fun ht12 => ?_) (fun ht12 => ?_) | refine CW.cond rfl (fun ht12 => ?_) (fun ht12 => ?_)
    · -- then
      refine CW.seq fun K13 hK13 => ?_
      refine CW.region ?_   -- region 8
      refine WL.val (Y.assign rfl) (by decide) ?_   -- t4 := assign c(false)
      refine WL.nil ?_
      refine hK13 _ _ ?_; try clear hK13 K13
      refine CW.ret ⟨_, rfl, ?_⟩
      exact False.elim (by assumption)
    -- else
    refine CW.skip ?_
    refine hK11 _ _ ?_; try clear hK11 K11
    refine CW.seq fun K14 hK14 => ?_
    refine CW.region ?_   -- region 9
    refine WL.val (Y.move rfl) (by decide) ?_   -- t52 := move t5
    refine WL.val (Y.move rfl) (by decide) ?_   -- t53 := move t8
    refine WL.call Try.func25 rfl rfl rfl ((by have h9 := fref_any g rb ra _ ns ((x : Int) - 1) _ ((hP4.ext hx6).ext hx9).ft hG hn5; rw [hfe] at h9; exact h9)) (by simp) ?_; rintro v w10 ⟨rfl, hx10⟩; have hz10 := hx10.size; have hE := hE.thenExt hx10   -- t54 := call F25(t52, t53) : 27,3
    refine WL.val (Y.move rfl) (by decide) ?_   -- t51 := move t54
    refine WL.val (Y.extract rfl rfl) (by decide) ?_   -- t55 := extract t51 0
    refine WL.val (Y.extract rfl rfl) (by decide) ?_   -- t56 := extract t51 1
    refine as_apiRef rfl (by simp) (by decide) fun g9 w11 hx11 hg9 hB9 => ?_   -- alloc 49; store 49 t9 t55
    have hlt9 := hB9.lt; have hz11 := hx11.size
    have hM9 := hB9.mem; have hz11 := hx11.size; have hE := hE.thenExt hx11
    refine WL.val (Y.assign rfl) (by decide) ?_   -- t10 := assign t56
    refine WL.nil ?_
    refine hK14 _ _ ?_; try clear hK14 K14
    refine CW.seq fun K15 hK15 => ?_
    refine CW.region ?_   -- region 10
    refine WL.val (Y.move rfl) (by decide) ?_   -- t58 := move t5
    refine WL.val (Y.load Try.underlying49 rfl hB9.mem (sz_apiRef _) rfl) (by decide) ?_   -- t59 := load 49 t9
    refine WL.call Try.func26 rfl rfl rfl ((by have h9 := fplace_any g rb ra _ ns (refT T.e ((x : Int) - 1)).1 _ ((((hP4.ext hx6).ext hx9).ext hx10).ext hx11).ft hG hn5; rw [hfe] at h9; exact h9)) (by simp) ?_; rintro v w12 ⟨rfl, hx12⟩; have hz12 := hx12.size; have hE := hE.thenExt hx12; have hB9 := hB9.ext hx12   -- t60 := call F26(t58, t59) : 27,49
    refine WL.val (Y.move rfl) (by decide) ?_   -- t57 := move t60
    refine WL.val (Y.extract rfl rfl) (by decide) ?_   -- t61 := extract t57 0
    refine WL.val (Y.extract rfl rfl) (by decide) ?_   -- t62 := extract t57 1
    refine WL.val (Y.assign rfl) (by decide) ?_   -- t11 := assign t61
    refine WL.val (Y.assign rfl) (by decide) ?_   -- t12 := assign t62
    refine WL.nil ?_
    refine hK15 _ _ ?_; try clear hK15 K15
    rw [hrp.1]
    have hrp2 := hrp.2
    refine CW.seq_test 73 (False) ?_ ?_
    · refine CW.region ?_
      refine WL.val (Y.move rfl) (by decide) ?_   -- t63 := move t10
      refine WL.val (Y.move rfl) (by decide) ?_   -- t64 := move t12
      refine WL.val (Y.neq_bool Try.underlying4 rfl rfl) (by decide) ?_   -- t65 := binOp neq 4 t63 t64 4
      refine WL.val (Y.move rfl) (by decide) ?_   -- t66 := move t65
      first | refine WL.casesD (d := 66) rfl (fun hg66 => ?_) (fun hg66 => ?_) | refine WL.casesND (d := 66) rfl (fun hg66 => ?_) (fun hg66 => ?_) | refine WL.cases (d := 66) rfl (fun hg66 => ?_) (fun hg66 => ?_)
      · -- t66 = T
        refine WL.goff rfl rfl (by decide) ?_   -- t67 := move t10 [if 3=false]
        refine WL.goff rfl rfl (by decide) ?_   -- t68 := move t67 [if 3=false]
        refine WL.goffU rfl rfl (by decide) ?_   -- t69 := move t11 [if 5=true]
        refine WL.goffU rfl rfl (by decide) ?_   -- t70 := move t8 [if 5=true]
        refine WL.goffU rfl rfl (by decide) ?_   -- t71 := binOp neq 3 t69 t70 3 [if 5=true]
        refine WL.goff rfl rfl (by decide) ?_   -- t72 := pick t68 t71 c(false) [if 3=false]
        refine WL.val (Y.pick rfl rfl) (by decide) ?_   -- t73 := pick t66 c(true) t72
        refine WL.nil ⟨⟨_, rfl, ?_⟩, rfl, (by repeat (first | exact Fr.le.refl | refine Fr.le.push rfl ?_))⟩
        first | (simp only [*, Int.natCast_inj, Bool.not_eq_true', decide_eq_false_iff_not, decide_eq_true_eq, not_true_eq_false, not_false_eq_true, true_and, false_and, and_true, and_false, false_or, or_false, true_or, or_true, iff_true, true_iff, iff_false, false_iff]; done) | (simp_all; done) | (refine congrArg Value.bool (Bool.eq_iff_iff.2 ?_); simp_all; done) | (simp_all; omega)
      · -- t66 = F
        refine WL.gval rfl rfl (Y.move rfl) (by decide) ?_   -- t67 := move t10 [if 3=false]
        refine WL.gval rfl rfl (Y.move rfl) (by decide) ?_   -- t68 := move t67 [if 3=false]
        first | refine WL.casesD (d := 68) rfl (fun hg68 => ?_) (fun hg68 => ?_) | refine WL.casesND (d := 68) rfl (fun hg68 => ?_) (fun hg68 => ?_) | refine WL.cases (d := 68) rfl (fun hg68 => ?_) (fun hg68 => ?_)
        · -- t68 = T
          refine WL.gval rfl rfl (Y.move rfl) (by decide) ?_   -- t69 := move t11 [if 5=true]
          refine WL.gval rfl rfl (Y.move rfl) (by decide) ?_   -- t70 := move t8 [if 5=true]
          refine WL.gval rfl rfl (Y.neq rfl rfl) (by decide) ?_   -- t71 := binOp neq 3 t69 t70 3 [if 5=true]
          refine WL.gval rfl rfl (Y.pick rfl rfl) (by decide) ?_   -- t72 := pick t68 t71 c(false) [if 3=false]
          refine WL.val (Y.pick rfl rfl) (by decide) ?_   -- t73 := pick t66 c(true) t72
          refine WL.nil ⟨⟨_, rfl, ?_⟩, rfl, (by repeat (first | exact Fr.le.refl | refine Fr.le.push rfl ?_))⟩
          first | (simp only [*, Int.natCast_inj, Bool.not_eq_true', decide_eq_false_iff_not, decide_eq_true_eq, not_true_eq_false, not_false_eq_true, true_and, false_and, and_true, and_false, false_or, or_false, true_or, or_true, iff_true, true_iff, iff_false, false_iff]; done) | (simp_all; done) | (refine congrArg Value.bool (Bool.eq_iff_iff.2 ?_); simp_all; done) | (simp_all; omega)
        · -- t68 = F
          refine WL.goff rfl rfl (by decide) ?_   -- t69 := move t11 [if 5=true]
          refine WL.goff rfl rfl (by decide) ?_   -- t70 := move t8 [if 5=true]
          refine WL.goff rfl rfl (by decide) ?_   -- t71 := binOp neq 3 t69 t70 3 [if 5=true]
          refine WL.gval rfl rfl (Y.pick rfl rfl) (by decide) ?_   -- t72 := pick t68 t71 c(false) [if 3=false]
          refine WL.val (Y.pick rfl rfl) (by decide) ?_   -- t73 := pick t66 c(true) t72
          refine WL.nil ⟨⟨_, rfl, ?_⟩, rfl, (by repeat (first | exact Fr.le.refl | refine Fr.le.push rfl ?_))⟩
          first | (simp only [*, Int.natCast_inj, Bool.not_eq_true', decide_eq_false_iff_not, decide_eq_true_eq, not_true_eq_false, not_false_eq_true, true_and, false_and, and_true, and_false, false_or, or_false, true_or, or_true, iff_true, true_iff, iff_false, false_iff]; done) | (simp_all; done) | (refine congrArg Value.bool (Bool.eq_iff_iff.2 ?_); simp_all; done) | (simp_all; omega)
    first | refine CW.condD rfl (fun ht16 => ?_) (fun ht16 => ?_) | refine CW.condND rfl (fun ht16 => ?_) (fun ht16 => ?_) | refine CW.condN rfl (fun ht16 => ?_) (fun ht16 => ?_) | refine CW.cond rfl (fun ht16 => ?_) (fun ht16 => ?_)
    · -- then
      refine CW.seq fun K17 hK17 => ?_
      refine CW.region ?_   -- region 12
      refine WL.val (Y.assign rfl) (by decide) ?_   -- t4 := assign c(false)
      refine WL.nil ?_
      refine hK17 _ _ ?_; try clear hK17 K17
      refine CW.ret ⟨_, rfl, ?_⟩
      exact False.elim (by assumption)
    -- else
    refine CW.skip ?_
    refine hK10 _ _ ?_; try clear hK10 K10
    refine CW.region ?_   -- region 6
    refine WL.val (Y.move rfl) (by decide) ?_   -- t35 := move t8
    refine WL.val (Y.add rfl rfl ⟨by omega, by omega⟩) (by decide) ?_   -- t36 := binOp add 3 t35 c(1:i64) 3
    rw [show ((x : Int) - 1 + 1) = (((x + 1 : Nat) : Int) - 1) by omega]
    refine WL.val (Y.assign rfl) (by decide) ?_   -- t8 := assign t36
    refine WL.nil ?_
    exact ⟨x + 1, (by show 302 - (x + 1) < 302 - x; omega), (by repeat (first | exact Fr.le.nil | refine Fr.le.cons rfl ?_)), (by show x + 1 ≤ 301; omega), ((((hL.thenExt hx6).thenExt hx9).thenExt hx10).thenExt hx11).thenExt hx12⟩
  -- else
  refine CW.exit ?_   -- exit 0
  refine hK6 _ _ ?_; try clear hK6 K6
  refine CW.seq fun K18 hK18 => ?_
  refine CW.region ?_   -- region 13
  refine WL.val (Y.move rfl) (by decide) ?_   -- t74 := move t5
  refine WL.val (Y.move rfl) (by decide) ?_   -- t75 := move t6
  refine WL.val (Y.move rfl) (by decide) ?_   -- t76 := move t1
  refine WL.val (Y.build rfl (build_act 4 _ _)) (by decide) ?_   -- t77 := build 75 [(0,c(4:i64)), (3,t76)]
  refine WL.call Try.func28 rfl rfl rfl (doesQ_any g rb ra ns gr rs av ev_ L T 4 n (by decide) _ (hP4.ext hx6) hfew) (by simp) ?_; rintro v w13 ⟨rfl, hx13⟩; have hz13 := hx13.size; have hE := hE.thenExt hx13   -- t78 := call F28(t74, t75, t77) : 27,28,75
  refine WL.val (Y.assign rfl) (by decide) ?_   -- t4 := assign t78
  refine WL.nil ?_
  refine hK18 _ _ ?_; try clear hK18 K18
  refine CW.ret ⟨_, rfl, ?_⟩
  exact ⟨rfl, hE⟩
end Go.Proofs.Ytffkmlkdlhkkmaa
