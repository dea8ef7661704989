/- A look at a graph begun, gone over, marked: begin, reach and its closure, marks, walked. No condition. -/
import Derived.Test.YtecolkngbcgmcaaGd
set_option linter.unusedSimpArgs false
set_option linter.unusedVariables false
namespace Go.Proofs.Ytecolkngbcgmcaa
open Go.RowKit Go.Fw Go.Pl
theorem info_boolT : ∃ i : TypeInfo, Try.prog.info? TBo = some i ∧ i.zero = some (.bool false) ∧ i.size = 1 ∧ i.bytes = 1 := by
  have h : (Try.prog.info? TBo).map (fun i => (i.zero, i.size, i.bytes)) = some (some (.bool false), 1, 1) := by kernel_rfl
  cases hi : Try.prog.info? TBo with
  | none => simp [hi] at h
  | some i => simp [hi] at h; exact ⟨i, rfl, h.1, h.2.1, h.2.2⟩
theorem zero_bool (w : World) : (zeroValue TBo).run Try.prog w = .ok (.bool false) w := by
  obtain ⟨i, hi, hz, _⟩ := info_boolT
  simp [zeroValue, typeInfo, hi, hz]
abbrev sz0_bool := @sz_bool
theorem sz0_sDigest : (Try.prog.info? 23).map (·.size) = some 1 := by kernel_rfl
abbrev sz0_sapiDigest := @sz0_sDigest
theorem sz_graphlook (u v x : Value) : (Try.prog.info? TLk).map (·.size) = some [u, v, x].length := by kernel_rfl
theorem fo_graphlook0 : FieldOff Try.prog TLk 0 0 := ⟨_, _, 1, Try.underlying61, rfl, by kernel_rfl, by decide, rfl⟩
theorem fo_graphlook1 : FieldOff Try.prog TLk 1 1 := ⟨_, _, 1, Try.underlying61, rfl, by kernel_rfl, by decide, rfl⟩
theorem fo_graphlook2 : FieldOff Try.prog TLk 2 2 := ⟨_, _, 1, Try.underlying61, rfl, by kernel_rfl, by decide, rfl⟩
theorem build_look (A : Option Addr) (n c r sb : Nat) (w : World) : (Instr.build TLk [(0, .slice A n c), (1, .map (some r)), (2, .slice (some ⟨sb, 0, none⟩) n n)].toArray).run Try.prog w = .ok (.agg #[.slice A n c, .map (some r), .slice (some ⟨sb, 0, none⟩) n n]) w := run_build w _ _ _ (by kernel_rfl)

theorem gbegin_any (u v0 : Value) (l : List NdV) (ds : List (Value × List Dig)) (w : World) (hl : Nds w u l) (hd : Sl w (fun x : Value × List Dig => [x.1]) 1 v0 ds) (hdd : ∀ x ∈ ds, Sl w digC 32 x.1 x.2) : Calls Try.prog 35 #[u, v0] w (Ret fun v w' => ∃ p, v = .tuple #[.pointer p, .int .i64 (wrongQ (ndsL l) (ds.map Prod.snd).flatten)] ∧ Ext w w' ∧ (wrongQ (ndsL l) (ds.map Prod.snd).flatten = 0 → ∃ gk r sb, p = some ⟨gk, 0, none⟩ ∧ LookAt w w' gk r sb u l (List.replicate l.length false))) := by
  have hl0 := hl
  obtain ⟨A, c, rfl, hmc, hcm⟩ := hl.sl.lens
  obtain ⟨A1, m1, c1, rfl, hdm, hdc, hdx, hdg⟩ := hd
  unfold maxLen at hcm hdx
  obtain ⟨bi, hbi, hbz, hbs, hbb⟩ := info_boolT
  refine calls_of_CW 53 [4, 5] [(0, .slice A l.length c), (1, .slice A1 m1 c1)] Try.func35 rfl rfl rfl (by simp) args2 ?_
  have hE : Ext w w := Chg.refl
  refine CW.seq fun K1 hK1 => ?_
  refine CW.region ?_   -- region 0
  refine WL.val (Y.assign rfl) (by decide) ?_   -- t4 := assign c(['Go.Value.pointer', 'none'])
  refine WL.val (Y.assign rfl) (by decide) ?_   -- t5 := assign c(0:i64)
  refine WL.nil ?_
  refine hK1 _ _ ?_; try clear hK1 K1
  refine CW.seq fun K2 hK2 => ?_
  refine CW.region ?_   -- region 1
  refine WL.val (Y.move rfl) (by decide) ?_   -- t16 := move t0
  refine WL.call Try.func39 rfl rfl rfl (gread_any _ l _ hl0) (by simp) ?_; rintro v17 w1 hR1   -- t17 := call F39(t16) : 22
  obtain ⟨mv, rfl, hmv, hx1⟩ := hR1
  have hz1 := hx1.size
  have hE := hE.thenExt hx1
  refine WL.val (Y.move rfl) (by decide) ?_   -- t15 := move t17
  refine WL.val (Y.extract rfl rfl) (by decide) ?_   -- t18 := extract t15 0
  refine WL.val (Y.extract rfl rfl) (by decide) ?_   -- t19 := extract t15 1
  refine WL.val (Y.extract rfl rfl) (by decide) ?_   -- t20 := extract t15 2
  refine WL.val (Y.assign rfl) (by decide) ?_   -- t6 := assign t18
  refine WL.val (Y.assign rfl) (by decide) ?_   -- t7 := assign t19
  refine WL.val (Y.assign rfl) (by decide) ?_   -- t8 := assign t20
  refine WL.nil ?_
  refine hK2 _ _ ?_; try clear hK2 K2
  refine CW.seq fun K3 hK3 => ?_
  refine CW.seq fun K4 hK4 => ?_
  refine CW.region ?_   -- region 2
  refine WL.val (Y.move rfl) (by decide) ?_   -- t21 := move t8
  refine WL.val (Y.neq rfl rfl) (by decide) ?_   -- t22 := binOp neq 24 t21 c(0:i64) 24
  refine WL.nil ?_
  refine hK4 _ _ ?_; try clear hK4 K4
  first | refine CW.condD rfl (fun ht5 => ?_) (fun ht5 => ?_) | refine CW.condND rfl (fun ht5 => ?_) (fun ht5 => ?_) | refine CW.condN rfl (fun ht5 => ?_) (fun ht5 => ?_) | refine CW.cond rfl (fun ht5 => ?_) (fun ht5 => ?_)
  · -- then
    refine CW.seq fun K6 hK6 => ?_
    refine CW.region ?_   -- region 3
    refine WL.val (Y.move rfl) (by decide) ?_   -- t23 := move t8
    refine WL.val (Y.assign rfl) (by decide) ?_   -- t4 := assign c(['Go.Value.pointer', 'none'])
    refine WL.val (Y.assign rfl) (by decide) ?_   -- t5 := assign t23
    refine WL.nil ?_
    refine hK6 _ _ ?_; try clear hK6 K6
    refine CW.ret ⟨_, rfl, ?_⟩
    have he : wrongQ (ndsL l) (ds.map Prod.snd).flatten = (readE (ndsL l)).2 := by rw [wrongQ, if_pos (by assumption)]
    exact ⟨_, by rw [he]; rfl, hE, fun h => by rw [he] at h; exact absurd h (by assumption)⟩
  -- else
  refine CW.skip ?_
  refine hK3 _ _ ?_; try clear hK3 K3
  refine CW.seq fun K7 hK7 => ?_
  refine CW.seq fun K8 hK8 => ?_
  have hok : (readE (ndsL l)).2 = 0 := Decidable.not_not.1 (by assumption)
  obtain ⟨r, rfl, hr, hM⟩ := hmv hok
  have hln := ok_len hok
  rw [List.length_map] at hln
  refine CW.region ?_   -- region 4
  refine WL.val (Y.move rfl) (by decide) ?_   -- t24 := move t1
  refine WL.val (Y.len_slice Try.underlying78 rfl) (by decide) ?_   -- t25 := call len(t24) : 78
  refine WL.val (Y.move rfl) (by decide) ?_   -- t26 := move c(0:i64)
  refine WL.nil ?_
  refine hK8 _ _ ?_; try clear hK8 K8
  refine CW.block ?_   -- block 0
  refine CW.loop (X := Nat) (fun x => [(0, .slice A l.length c), (6, .map (some r)), (24, .slice A1 m1 c1), (25, .int .i64 (m1 : Int)), (26, .int .i64 (x : Int))]) (fun x w0 => x ≤ m1 ∧ (∀ i y d, i < x → ds[i]? = some y → d ∈ y.2 → d ∈ idsL (ndsL l)) ∧ Ext w w0 ∧ MapAt w0 r pme (placed (idsL (ndsL l))) l.length) (fun x => m1 - x) 0 (by repeat (first | exact Fr.le.nil | refine Fr.le.cons rfl ?_)) ⟨Nat.zero_le _, (fun i y d h => by omega), hE, hM⟩ ?_
  intro x w2 hl2
  obtain ⟨i, rfl⟩ : ∃ i, i = x := ⟨x, rfl⟩
  obtain ⟨hxm, hin, hE, hM⟩ := hl2
  refine CW.seq fun K9 hK9 => ?_
  refine CW.region ?_   -- region 5
  refine WL.val (Y.lss rfl rfl) (by decide) ?_   -- t27 := binOp lss 3 t26 t25 3
  refine WL.nil ?_
  refine hK9 _ _ ?_; try clear hK9 K9
  refine CW.seq fun K10 hK10 => ?_
  first | refine CW.condD rfl (fun ht11 => ?_) (fun ht11 => ?_) | refine CW.condND rfl (fun ht11 => ?_) (fun ht11 => ?_) | refine CW.condN rfl (fun ht11 => ?_) (fun ht11 => ?_) | refine CW.cond rfl (fun ht11 => ?_) (fun ht11 => ?_)
  · -- then
    refine CW.skip ?_
    refine hK10 _ _ ?_; try clear hK10 K10
    refine CW.seq fun K12 hK12 => ?_
    refine CW.block ?_   -- block 1
    refine CW.seq fun K13 hK13 => ?_
    obtain ⟨⟨dv, dl⟩, hy⟩ : ∃ y, ds[i]? = some y := ⟨_, List.getElem?_eq_getElem (by omega)⟩
    obtain ⟨a, rfl, hma⟩ := hdg _ _ hy
    have hdl := hdd _ (List.mem_of_getElem? hy)
    dsimp only at hdl hma
    obtain ⟨A2, c2, rfl, hdl2, hdl3⟩ := hdl.lens
    unfold maxLen at hdl3
    refine CW.region ?_   -- region 6
    refine WL.val (Y.indexAddrN Try.underlying78 rfl rfl sz0_sapiDigest (by omega)) (by decide) ?_   -- t28 := indexAddr 78 t24 t26
    refine WL.val (Y.load1 Try.underlying23 rfl ((hma.ext hE).cell0) rfl) (by decide) ?_   -- t29 := load 23 t28
    refine WL.val (Y.assign rfl) (by decide) ?_   -- t10 := assign t29
    refine WL.nil ?_
    refine hK13 _ _ ?_; try clear hK13 K13
    refine CW.seq fun K14 hK14 => ?_
    refine CW.region ?_   -- region 7
    refine WL.val (Y.move rfl) (by decide) ?_   -- t30 := move t10
    refine WL.val (Y.len_slice Try.underlying23 rfl) (by decide) ?_   -- t31 := call len(t30) : 23
    refine WL.val (Y.move rfl) (by decide) ?_   -- t32 := move c(0:i64)
    refine WL.nil ?_
    refine hK14 _ _ ?_; try clear hK14 K14
    refine CW.block ?_   -- block 2
    refine CW.loop (X := Nat) (fun x => [(0, .slice A l.length c), (6, .map (some r)), (24, .slice (some a) m1 c1), (25, .int .i64 (m1 : Int)), (26, .int .i64 (i : Int)), (30, .slice A2 dl.length c2), (31, .int .i64 (dl.length : Int)), (32, .int .i64 (x : Int))]) (fun x w0 => x ≤ dl.length ∧ (∀ j d, j < x → dl[j]? = some d → d ∈ idsL (ndsL l)) ∧ Ext w w0 ∧ MapAt w0 r pme (placed (idsL (ndsL l))) l.length) (fun x => dl.length - x) 0 (by repeat (first | exact Fr.le.nil | refine Fr.le.cons rfl ?_)) ⟨Nat.zero_le _, (fun j d h => by omega), hE, hM⟩ ?_
    intro x w3 hl3
    obtain ⟨hzm, hin2, hE, hM⟩ := hl3
    refine CW.seq fun K15 hK15 => ?_
    refine CW.region ?_   -- region 8
    refine WL.val (Y.lss rfl rfl) (by decide) ?_   -- t33 := binOp lss 3 t32 t31 3
    refine WL.nil ?_
    refine hK15 _ _ ?_; try clear hK15 K15
    refine CW.seq fun K16 hK16 => ?_
    first | refine CW.condD rfl (fun ht17 => ?_) (fun ht17 => ?_) | refine CW.condND rfl (fun ht17 => ?_) (fun ht17 => ?_) | refine CW.condN rfl (fun ht17 => ?_) (fun ht17 => ?_) | refine CW.cond rfl (fun ht17 => ?_) (fun ht17 => ?_)
    · -- then
      refine CW.skip ?_
      refine hK16 _ _ ?_; try clear hK16 K16
      refine CW.seq fun K18 hK18 => ?_
      refine CW.block ?_   -- block 3
      refine CW.seq fun K19 hK19 => ?_
      obtain ⟨d, hd⟩ : ∃ d, dl[x]? = some d := ⟨_, List.getElem?_eq_getElem (by omega)⟩
      obtain ⟨b, rfl, hmb⟩ := hdl.at hd
      refine CW.region ?_   -- region 9
      refine WL.val (Y.indexAddrN Try.underlying23 rfl rfl sz0_apiDigest (by omega)) (by decide) ?_   -- t34 := indexAddr 23 t30 t32
      refine WL.val (Y.load Try.underlying45 rfl (hmb.ext hE) (sz_apiDigest _) rfl) (by decide) ?_   -- t35 := load 45 t34
      refine as_apiDigest rfl (by simp) (by decide) fun g12 w4 hx4 hg12 hB12 => ?_   -- alloc 45; store 45 t12 t35
      have hlt12 := hB12.lt; have hz4 := hx4.size
      have hM12 := hB12.mem; have hz4 := hx4.size; have hE := hE.thenExt hx4
      refine WL.nil ?_
      refine hK19 _ _ ?_; try clear hK19 K19
      refine CW.seq fun K20 hK20 => ?_
      refine CW.region ?_   -- region 10
      refine WL.val (Y.move rfl) (by decide) ?_   -- t37 := move t6
      refine WL.val (Y.load Try.underlying45 rfl hB12.mem (sz_apiDigest _) rfl) (by decide) ?_   -- t38 := load 45 t12
      refine WL.val (Y.lookupOk keyDig (fun _ => rfl) Try.underlying59 zero_int rfl rfl (hM.ext hx4)) (by decide) ?_   -- t39 := lookup 59 t37 t38 true
      refine WL.val (Y.move rfl) (by decide) ?_   -- t36 := move t39
      refine WL.val (Y.extract rfl rfl) (by decide) ?_   -- t40 := extract t36 0
      refine WL.val (Y.extract rfl rfl) (by decide) ?_   -- t41 := extract t36 1
      refine WL.val (Y.assign rfl) (by decide) ?_   -- t13 := assign t40
      refine WL.val (Y.assign rfl) (by decide) ?_   -- t14 := assign t41
      refine WL.nil ?_
      refine hK20 _ _ ?_; try clear hK20 K20
      refine CW.seq fun K21 hK21 => ?_
      refine CW.region ?_   -- region 11
      refine WL.val (Y.move rfl) (by decide) ?_   -- t42 := move t14
      refine WL.val (Y.not rfl) (by decide) ?_   -- t43 := unOp not 4 t42
      refine WL.nil ?_
      refine hK21 _ _ ?_; try clear hK21 K21
      first | refine CW.condD rfl (fun ht22 => ?_) (fun ht22 => ?_) | refine CW.condND rfl (fun ht22 => ?_) (fun ht22 => ?_) | refine CW.condN rfl (fun ht22 => ?_) (fun ht22 => ?_) | refine CW.cond rfl (fun ht22 => ?_) (fun ht22 => ?_)
      · -- then
        refine CW.seq fun K23 hK23 => ?_
        refine CW.region ?_   -- region 12
        refine WL.val (Y.assign rfl) (by decide) ?_   -- t4 := assign c(['Go.Value.pointer', 'none'])
        refine WL.val (Y.assign rfl) (by decide) ?_   -- t5 := assign c(5:i64)
        refine WL.nil ?_
        refine hK23 _ _ ?_; try clear hK23 K23
        refine CW.ret ⟨_, rfl, ?_⟩
        have hnd : ¬ d ∈ idsL (ndsL l) := fun h => by
          have h9 := ht22
          rw [placed_isSome] at h9
          simp_all
        have he : wrongQ (ndsL l) (ds.map Prod.snd).flatten = 5 := by
          rw [wrongQ, if_neg (by rw [hok]; decide), if_pos ⟨d, List.mem_flatten.2 ⟨dl, List.mem_map.2 ⟨_, List.mem_of_getElem? hy, rfl⟩, List.mem_of_getElem? hd⟩, hnd⟩]
        exact ⟨_, by rw [he], hE, fun h => by rw [he] at h; simp at h⟩
      -- else
      refine CW.skip ?_
      refine hK18 _ _ ?_; try clear hK18 K18
      refine CW.region ?_   -- region 13
      refine WL.val (Y.add rfl rfl ⟨by omega, by omega⟩) (by decide) ?_   -- t44 := binOp add 3 t32 c(1:i64) 3
      refine WL.val (Y.move rfl) (by decide) ?_   -- t32 := move t44
      refine WL.nil ?_
      refine ⟨x + 1, by show dl.length - (x + 1) < dl.length - x; omega, (by repeat (first | exact Fr.le.nil | refine Fr.le.cons rfl ?_)), by show x + 1 ≤ dl.length; omega, ?_, hE, hM.ext hx4⟩
      intro j d2 hj h1
      by_cases e : j < x
      · exact hin2 j d2 e h1
      · have e2 : j = x := by omega
        subst e2
        rw [hd] at h1; cases h1
        have h9 := ht22
        rw [placed_isSome] at h9
        simpa using h9
    -- else
    refine CW.exit ?_   -- exit 2
    refine hK12 _ _ ?_; try clear hK12 K12
    refine CW.region ?_   -- region 14
    refine WL.val (Y.add rfl rfl ⟨by omega, by omega⟩) (by decide) ?_   -- t45 := binOp add 3 t26 c(1:i64) 3
    refine WL.val (Y.move rfl) (by decide) ?_   -- t26 := move t45
    refine WL.nil ?_
    refine ⟨i + 1, by show m1 - (i + 1) < m1 - i; omega, (by repeat (first | exact Fr.le.nil | refine Fr.le.cons rfl ?_)), by show i + 1 ≤ m1; omega, ?_, hE, hM⟩
    intro j y2 d2 hj hy2 hd2
    by_cases e : j < i
    · exact hin j y2 d2 e hy2 hd2
    · have e2 : j = i := by omega
      subst e2
      rw [hy] at hy2; cases hy2
      obtain ⟨k, hk⟩ := List.mem_iff_getElem?.1 hd2
      have hk : dl[k]? = some d2 := hk
      exact hin2 k d2 (by have := (List.getElem?_eq_some_iff.1 hk).1; omega) hk
  -- else
  refine CW.exit ?_   -- exit 0
  refine hK7 _ _ ?_; try clear hK7 K7
  refine CW.seq fun K24 hK24 => ?_
  refine CW.region ?_   -- region 15
  refine WL.val (Y.move rfl) (by decide) ?_   -- t46 := move t0
  refine WL.val (Y.move rfl) (by decide) ?_   -- t47 := move t6
  refine WL.val (Y.move rfl) (by decide) ?_   -- t48 := move t0
  refine WL.val (Y.len_slice Try.underlying22 rfl) (by decide) ?_   -- t49 := call len(t48) : 22
  refine WL.st (St.makeB Try.underlying58 hbi hbz hbs hbb rfl rfl (by omega)) (by decide) fun v50 w5 hR5 => ?_   -- t50 := makeSlice 58 t49 t49
  obtain ⟨sb, rfl, hsb, hBs, hx5⟩ := hR5
  have hz5 := hx5.size
  have hE := hE.thenExt hx5
  have hlt5 := hBs.lt
  have hltM := hM.lt
  have hM := hM.ext hx5
  refine WL.val (Y.build rfl (build_look _ _ _ _ _ _)) (by decide) ?_   -- t51 := build 61 [(0,t46), (1,t47), (2,t50)]
  refine WL.box rfl rfl (by decide) fun g52 w6 hx6 hg52 hB52 => ?_   -- t52 := box 61 t51
  have hlt52 := hB52.lt; have hz6 := hx6.size
  have hM52 := hB52.mem; have hz6 := hx6.size; have hE := hE.thenExt hx6
  refine WL.val (Y.assign rfl) (by decide) ?_   -- t4 := assign t52
  refine WL.val (Y.assign rfl) (by decide) ?_   -- t5 := assign c(0:i64)
  refine WL.nil ?_
  refine hK24 _ _ ?_; try clear hK24 K24
  refine CW.ret ⟨_, rfl, ?_⟩
  have he : wrongQ (ndsL l) (ds.map Prod.snd).flatten = 0 := by
    rw [wrongQ, if_neg (by rw [hok]; decide), if_neg]
    rintro ⟨d, hdm2, hn⟩
    obtain ⟨dl, h1, h2⟩ := List.mem_flatten.1 hdm2
    obtain ⟨y, h3, h4⟩ := List.mem_map.1 h1
    obtain ⟨j, hj⟩ := List.mem_iff_getElem?.1 h3
    exact hn (hin j y d (by have := (List.getElem?_eq_some_iff.1 hj).1; omega) hj (h4 ▸ h2))
  exact ⟨_, by rw [he], hE, fun _ => ⟨g52, r, sb, rfl, hl0, hE, ⟨by omega, by omega, by omega⟩, ⟨by omega, by omega, by omega⟩, hB52, hM.ext hx6, hBs.ext hx6, by simp, hok⟩⟩
end Go.Proofs.Ytecolkngbcgmcaa
