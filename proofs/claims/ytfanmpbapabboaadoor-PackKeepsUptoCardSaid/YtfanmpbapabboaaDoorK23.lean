/- Parts of a proof: what its last text leans on. No condition. -/
import Derived.Test.YtfanmpbapabboaaDoorK16
import Derived.Test.YtfanmpbapabboaaDoorK22
set_option linter.unusedSimpArgs false
set_option linter.unusedVariables false
/- PackKeeps, walked. No condition but the bounds of what is handed in. -/
namespace Go.Proofs.YtfanmpbapabboaaDoor
open Go.RowKit Go.Fw Go.Pl Go.Sort
theorem one_flatSx (l : List (List UInt8)) : ∀ u ∈ flatS l, u.oneCell' = true := by
 intro u hu
 obtain ⟨s, hs, hu⟩ := List.mem_flatten.1 hu
 obtain ⟨d, _, rfl⟩ := List.mem_map.1 hs
 simp [strC] at hu; subst hu; rfl
theorem rcP_ok {xs : List (List UInt8)} {hs : List Dig} {ys : List (List UInt8)} (h : RcP xs hs ys 0) : ∃ l S, Holds l xs ∧ l.length ≤ 500 ∧ ReachOk l hs S ∧ ys = S.map (getB l) := by
 rcases h with ⟨⟨_, _, _, _, _, _, _, _, hne⟩, _⟩ | ⟨l, hl, _, hf, h⟩
 ·
  exact absurd rfl hne
 ·
  rcases h with ⟨h, _⟩ | ⟨S, _, hS, rfl⟩
  ·
   exact absurd h de_
  ·
   exact ⟨l, S, hl, hf, hS, rfl⟩
theorem rcP_ne {xs : List (List UInt8)} {hs : List Dig} {ys : List (List UInt8)} {e : Int} (h : RcP xs hs ys e) (he : e ≠ 0) : ys = [] := by
 rcases h with ⟨_, h⟩ | ⟨l, _, _, _, ⟨_, h, _⟩ | ⟨S, h, _⟩⟩
 ·
  exact h
 ·
  exact h
 ·
  exact absurd h he
theorem rcP_tk {xs : List (List UInt8)} {hs : List Dig} {ys : List (List UInt8)} (h : RcP xs hs ys 0) : TkOk ys ∧ ys.length ≤ 500 := by
 obtain ⟨l, S, hl, hf, hS, rfl⟩ := rcP_ok h
 refine ⟨hS.tk hl hf, ?_⟩
 have := hS.few hl.keys
 rw [List.length_map]; omega
theorem rcP_again {xs : List (List UInt8)} {hs : List Dig} {ys zs : List (List UInt8)} {f : Int} (h : RcP xs hs ys 0) (g : RcP ys hs zs f) : ys = zs ∧ f = 0 := by
 have ht := (rcP_tk h).1
 obtain ⟨l, S, hl, hf, hS, rfl⟩ := rcP_ok h
 rcases g with ⟨g, _⟩ | ⟨k, hk, _, _, g⟩
 ·
  exact absurd ht (tkErr_no g)
 ·
  obtain ⟨h1, h2⟩ := hS.again hl hk
  rcases g with ⟨_, _, d, hr, hd⟩ | ⟨T, rfl, hT, rfl⟩
  ·
   exact absurd (h1.good hr) hd
  ·
   obtain rfl := h1.one hT
   exact ⟨h2.symm, rfl⟩
theorem rcP_ids {xs : List (List UInt8)} {hs : List Dig} {ys : List (List UInt8)} (h : RcP xs hs ys 0) : Up (ys.map shaD) ∧ ∀ d ∈ hs, d ∈ ys.map shaD := by
 obtain ⟨l, S, hl, hf, hS, rfl⟩ := rcP_ok h
 rw [hS.ids hl]
 exact ⟨hS.up, fun d hd => (hS.mem d).2 (.head hd)⟩
theorem rcP_more {xs ms : List (List UInt8)} {hs : List Dig} {ys zs : List (List UInt8)} {f : Int} (h : RcP xs hs ys 0) (g : RcP (xs ++ ms) hs zs f) : (f ≠ 0 ∧ f ≠ 5) ∨ (f = 0 ∧ zs = ys) := by
 obtain ⟨l, S, hl, hf, hS, rfl⟩ := rcP_ok h
 rcases g with ⟨g, _⟩ | ⟨k, hk, _, _, g⟩
 ·
  refine .inl ⟨?_, tkErr_not5 g⟩
  obtain ⟨_, _, _, _, _, _, _, _, hne⟩ := g
  exact hne
 ·
  obtain ⟨h1, h2⟩ := hS.more hl hk
  rcases g with ⟨_, _, d, hr, hd⟩ | ⟨T, rfl, hT, rfl⟩
  ·
   exact absurd (h1.good hr) hd
  ·
   obtain rfl := h1.one hT
   exact .inr ⟨rfl, h2⟩
theorem packKeeps_any (u v z : Value) (xs : List (List UInt8)) (hs : List Dig) (ms : List (List UInt8)) (w : World) (hu : Sl w strC 1 u xs) (hsx : ∀ x ∈ xs, x.length ≤ 140737488351232) (hv : Sl w digC 32 v hs) (hsh : hs.length * 32 ≤ 140737488355328) (hm : Sl w strC 1 z ms) (hsm : ∀ x ∈ ms, x.length ≤ 140737488351232) (hr : xs.length + ms.length ≤ 2097152) (hK : Mem w ⟨0, 0, none⟩ (wds keysL)) : Calls Tryd.prog 3 #[u, v, z] w (Ret (True_ w)) := by
 have hk0 : (0 : Nat) < w.heap.size := hK.lt (fun h => by cases h)
 obtain ⟨Au, mu, cu, rfl, hmu, _⟩ := id hu
 obtain ⟨Az, mz, cz, rfl, hmz, _⟩ := id hm
 obtain ⟨A, m, c, rfl, hmv, hmc, hcm, hux⟩ := id hv
 unfold maxLen at hcm
 refine calls_of_CW 102 [6] [(0, .slice Au mu cu), (1, .slice A m c), (2, .slice Az mz cz)] Tryd.func3 rfl rfl rfl (by simp) args3 ?_
 have hE : Ext w w := Chg.refl
 refine CW.sr fun K1 hK1 => ?_
 refine WL.a rfl ?_
 refine WL.nil (hK1 _ _ ?_); try clear hK1
 refine CW.sr fun K2 hK2 => ?_
 refine WL.m rfl ?_
 refine WL.m rfl ?_
 refine WL.call Tryd.func4 rfl rfl rfl (reach_any _ _ xs hs _ hu hsx hv hsh hK) (by simp) ?_; rintro v21 w1 hR1
 obtain ⟨p, e, ys, rfl, hA, hO1, hx1⟩ := hR1
 have hz1 := hx1.size
 have hE := hE.thenExt hx1
 obtain ⟨A7, m7, c7, rfl⟩ := hO1.lens
 have hm7 := (Own.len strC_length de_ hO1).1
 refine WL.m rfl ?_
 refine WL.v (Y.extract rfl rfl) ?_
 refine WL.v (Y.extract rfl rfl) ?_
 refine WL.a rfl ?_
 refine WL.a rfl ?_
 refine WL.nil (hK2 _ _ ?_); try clear hK2
 refine CW.seq fun K3 hK3 => ?_
 refine CW.sr fun K4 hK4 => ?_
 refine WL.m rfl ?_
 refine WL.v (Y.neq rfl rfl) ?_
 refine WL.nil (hK4 _ _ ?_); try clear hK4
 (first | refine cd_ rfl ?_ ?_ | refine ce_ rfl ?_ ?_ | refine cn_ rfl ?_ ?_ | refine cb_ rfl ?_ ?_) <;> intro ht5
 ·
  -- then
  refine CW.sr fun K6 hK6 => ?_
  refine WL.m rfl ?_
  refine WL.v (Y.len_slice Tryd.underlying22 rfl) ?_
  refine WL.v (Y.eql rfl rfl) ?_
  refine WL.m rfl ?_
  (first | refine WL.casesD (d := 29) rfl ?_ ?_ | refine WL.casesND (d := 29) rfl ?_ ?_ | refine WL.cases (d := 29) rfl ?_ ?_) <;> intro hg29
  ·
   -- t29 = T
   refine WL.gcall rfl rfl Tryd.func5 rfl rfl rfl (palive_any _ (hK.ext hE)) de_ ?_; rintro v30 w2 hR2
   obtain ⟨rfl, hx2⟩ := hR2
   have hz2 := hx2.size
   have hE := hE.thenExt hx2
   refine WL.v (Y.pick rfl rfl) ?_
   refine WL.a rfl ?_
   refine WL.nil (hK6 _ _ ?_); try clear hK6
   refine CW.ret ⟨_, rfl, ?_⟩
   exact ⟨rfl, hE⟩
  ·
   -- t29 = F
   refine WL.o rfl rfl ?_
   refine WL.v (Y.pick rfl rfl) ?_
   refine WL.a rfl ?_
   refine WL.nil (hK6 _ _ ?_); try clear hK6
   refine CW.ret ⟨_, rfl, ?_⟩
   have h0 := rcP_ne hA (by assumption)
   subst h0
   exact absurd (by simp at hm7; omega) hg29
 refine CW.skip ?_
 refine hK3 _ _ ?_; try clear hK3
 refine CW.seq fun K7 hK7 => ?_
 obtain rfl : e = 0 := Decidable.not_not.1 (by assumption)
 obtain ⟨hys, hyl⟩ := rcP_tk hA
 have hys := hys.short
 have hids := rcP_ids hA
 refine CW.region ?_
 refine WL.m rfl ?_
 refine WL.m rfl ?_
 refine WL.call Tryd.func4 rfl rfl rfl (reach_any _ _ ys hs _ (hO1.sl strC_length de_) (fun x h => by have := hys x h; omega) (hv.ext hE) hsh (hK.ext hE)) (by simp) ?_; rintro v35 w3 hR3
 obtain ⟨q, f, zs, rfl, hB, hO3, hx3⟩ := hR3
 have hz3 := hx3.size
 have hE := hE.thenExt hx3
 have hO1 := hO1.ext hx3
 obtain ⟨rfl, rfl⟩ := rcP_again hA hB
 refine WL.m rfl ?_
 refine WL.v (Y.extract rfl rfl) ?_
 refine WL.v (Y.extract rfl rfl) ?_
 refine WL.a rfl ?_
 refine WL.a rfl ?_
 refine WL.nil (hK7 _ _ ?_); try clear hK7
 refine CW.seq fun K8 hK8 => ?_
 refine CW.seq_testE 45 (False) ?_ ?_
 ·
  refine CW.region ?_
  refine WL.m rfl ?_
  refine WL.v (Y.neq rfl rfl) ?_
  refine WL.m rfl ?_
  (first | refine WL.casesD (d := 40) rfl ?_ ?_ | refine WL.casesND (d := 40) rfl ?_ ?_ | refine WL.cases (d := 40) rfl ?_ ?_) <;> intro hg40
  ·
   -- t40 = T
   refine WL.o rfl rfl ?_
   refine WL.o rfl rfl ?_
   refine WL.o rfl rfl ?_
   refine WL.o rfl rfl ?_
   refine WL.v (Y.pick rfl rfl) ?_
   refine WL.nil ⟨⟨_, rfl, ?_⟩, Chg.refl, Fr.okp⟩
   exact tst_ok
  ·
   -- t40 = F
   refine WL.g rfl rfl (Y.move rfl) ?_
   refine WL.g rfl rfl (Y.move rfl) ?_
   refine WL.gcall rfl rfl Tryd.func6 rfl rfl rfl (psame_any _ _ ys ys _ (hO1.sl strC_length de_) (hO3.sl strC_length de_)) de_ ?_; rintro v w4 ⟨rfl, hx4⟩; have hz4 := hx4.size; have hE := hE.thenExt hx4
   refine WL.g rfl rfl (Y.not rfl) ?_
   refine WL.v (Y.pick rfl rfl) ?_
   refine WL.nil ⟨⟨_, rfl, ?_⟩, hx4, Fr.okp⟩
   exact tst_ok
 intro w5 hx5; have hz5 := hx5.size; have hE := hE.thenExt hx5
 (first | refine cd_ rfl ?_ ?_ | refine ce_ rfl ?_ ?_ | refine cn_ rfl ?_ ?_ | refine cb_ rfl ?_ ?_) <;> intro ht9
 ·
  -- then
  refine CW.sr fun K10 hK10 => ?_
  refine WL.a rfl ?_
  refine WL.nil (hK10 _ _ ?_); try clear hK10
  refine CW.ret ⟨_, rfl, ?_⟩
  simp at ht9
 refine CW.skip ?_
 refine hK8 _ _ ?_; try clear hK8
 refine CW.seq fun K11 hK11 => ?_
 have hO1 := hO1.ext hx5
 have hE5 := hE
 have hE : Ext w5 w5 := Chg.refl
 refine CW.region ?_
 refine WL.a rfl ?_
 refine WL.nil (hK11 _ _ ?_); try clear hK11
 refine CW.seq fun K12 hK12 => ?_
 refine CW.sr fun K13 hK13 => ?_
 refine WL.m rfl ?_
 refine WL.v (Y.len_slice Tryd.underlying22 rfl) ?_
 refine WL.m rfl ?_
 refine WL.nil (hK13 _ _ ?_); try clear hK13
 refine CW.block ?_
 refine CW.loop (X := Value × Nat) (fun x => [(0, .slice Au mu cu), (1, .slice A m c), (2, .slice Az mz cz), (7, .slice A7 m7 c7), (11, x.1), (46, .slice A7 m7 c7), (47, .int .i64 (m7 : Int)), (48, .int .i64 (x.2 : Int))]) (fun x w0 => x.2 ≤ m7 ∧ Own w0 TDg 32 x.1 (flatD ((ys.take x.2).map shaD)) ∧ (∀ k, x.1.ownBlock = some k → w5.heap.size ≤ k) ∧ Ext w5 w0) (fun x => m7 - x.2) (.slice none 0 0, 0) Fr.ok ⟨Nat.zero_le _, by simpa [flatD] using Own.nil, (fun k h => by simp [Value.ownBlock] at h), hE⟩ ?_
 intro x w6 hl6
 clear hE
 obtain ⟨iv, i⟩ := x
 dsimp only at hl6 ⊢
 obtain ⟨hi, hI, hif, hE⟩ := hl6
 have hzE := hE.size
 obtain ⟨A8, m8, c8, rfl⟩ := hI.lens
 have hm8 := (Own.len digC_length de_ hI).1
 rw [List.length_map, List.length_take] at hm8
 refine CW.sr fun K14 hK14 => ?_
 refine WL.v (Y.lss rfl rfl) ?_
 refine WL.nil (hK14 _ _ ?_); try clear hK14
 refine CW.seq fun K15 hK15 => ?_
 (first | refine cd_ rfl ?_ ?_ | refine ce_ rfl ?_ ?_ | refine cn_ rfl ?_ ?_ | refine cb_ rfl ?_ ?_) <;> intro ht16
 ·
  -- then
  refine CW.skip ?_
  refine hK15 _ _ ?_; try clear hK15
  refine CW.seq fun K17 hK17 => ?_
  refine CW.block ?_
  refine CW.seq fun K18 hK18 => ?_
  obtain ⟨b, hb⟩ : ∃ b, ys[i]? = some b := ⟨_, List.getElem?_eq_getElem om_⟩
  obtain ⟨a7, rfl, hmb⟩ := ((hO1.ext hE).sl strC_length de_).at hb
  have hbl := hys _ (List.mem_of_getElem? hb)
  refine CW.region ?_
  refine WL.v (Y.indexAddrN Tryd.underlying22 rfl rfl sz0_string om_) ?_
  refine WL.v (Y.load1 Tryd.underlying9 rfl (hmb.cell0) rfl) ?_
  refine WL.a rfl ?_
  refine WL.nil (hK18 _ _ ?_); try clear hK18
  refine CW.region ?_
  refine WL.m rfl ?_
  refine WL.m rfl ?_
  refine WL.st (St.strBytes Tryd.underlying9 Tryd.underlying32 Tryd.underlying5 rfl (by rw [bs_size]; omega)) de_ fun v54 w7 hR7 => ?_
  obtain ⟨hB7, hx7, hf7⟩ := hR7
  rw [bs_toList] at hB7
  have hz7 := hx7.size
  have hE := hE.thenExt hx7
  have hI := hI.ext hx7
  refine WL.call Tryd.func7 rfl rfl rfl (sum_any _ b _ hB7.by (fun _ k hk => hB7.lt k hk) (hK.ext (hE5.thenExt hE)) om_) (by simp) ?_; rintro v55 w8 hR8
  obtain ⟨rfl, hx8⟩ := hR8
  have hz8 := hx8.size
  have hE := hE.thenExt hx8
  have hI := hI.ext hx8
  refine WL.st (St.buildSlice rfl (bs1_dig _)) de_ fun v56 w9 hR9 => ?_
  obtain ⟨g56, rfl, hg56, hB56, hx9⟩ := hR9
  have hz9 := hx9.size
  have hE := hE.thenExt hx9
  have hI := hI.ext hx9
  refine WL.st (St.append Tryd.underlying23 Tryd.underlying23 ai_dig rfl rfl hI (Src.one hB56 (digC_length _)) one_digC (by rw [flat_length digC_length, List.length_map, List.length_take]; omega)) de_ fun v57 w10 hR10 => ?_
  obtain ⟨hI10, hc10, hf10⟩ := hR10
  have hz10 := hc10.size
  have hE := hE.step hc10 (fun k h => hif k h)
  refine WL.a rfl ?_
  refine WL.nil (hK17 _ _ ?_); try clear hK17
  refine CW.region ?_
  refine WL.v (Y.add rfl rfl o2_) ?_
  refine WL.m rfl ?_
  refine WL.nil ?_
  refine ⟨(v57, i + 1), by show m7 - (i + 1) < m7 - i; omega, Fr.ok, by show i + 1 ≤ m7; omega, ?_, fun k hk => ?_, hE⟩
  ·
   show Own _ TDg 32 v57 (flatD ((ys.take (i + 1)).map shaD))
   rw [take_succ hb]
   simpa [flatD] using hI10
  ·
   rcases hf10 with h | h
   ·
    rw [h] at hk; exact hif k hk
   ·
    have := h k hk; omega
 refine CW.exit ?_
 refine hK12 _ _ ?_; try clear hK12
 refine CW.seq fun K19 hK19 => ?_
 refine CW.seq fun K20 hK20 => ?_
 rw [List.take_of_length_le om_] at hI
 have hO1 := hO1.ext hE
 have hE6 := hE5.thenExt hE
 have hE : Ext w6 w6 := Chg.refl
 refine CW.region ?_
 refine WL.m rfl ?_
 refine WL.v (Y.len_slice Tryd.underlying23 rfl) ?_
 refine WL.m rfl ?_
 refine WL.nil (hK20 _ _ ?_); try clear hK20
 refine CW.block ?_
 refine CW.loop (X := Nat) (fun x => [(0, .slice Au mu cu), (1, .slice A m c), (2, .slice Az mz cz), (7, .slice A7 m7 c7), (11, .slice A8 m8 c8), (59, .slice A m c), (60, .int .i64 (m : Int)), (61, .int .i64 (x : Int))]) (fun x w0 => x ≤ m ∧ Ext w6 w0) (fun x => m - x) 0 Fr.ok ⟨Nat.zero_le _, hE⟩ ?_
 intro x w11 hl11
 clear hE
 obtain ⟨hx, hE⟩ := hl11
 have hzE := hE.size
 refine CW.sr fun K21 hK21 => ?_
 refine WL.v (Y.lss rfl rfl) ?_
 refine WL.nil (hK21 _ _ ?_); try clear hK21
 refine CW.seq fun K22 hK22 => ?_
 (first | refine cd_ rfl ?_ ?_ | refine ce_ rfl ?_ ?_ | refine cn_ rfl ?_ ?_ | refine cb_ rfl ?_ ?_) <;> intro ht23
 ·
  -- then
  refine CW.skip ?_
  refine hK22 _ _ ?_; try clear hK22
  refine CW.seq fun K24 hK24 => ?_
  refine CW.block ?_
  refine CW.seq fun K25 hK25 => ?_
  obtain ⟨d, hd⟩ : ∃ d, hs[x]? = some d := ⟨_, List.getElem?_eq_getElem om_⟩
  obtain ⟨a, rfl, hmd⟩ := (hv.ext (hE6.thenExt hE)).at hd
  refine CW.region ?_
  refine WL.v (Y.indexAddrN Tryd.underlying23 rfl rfl sz0_apiDigest om_) ?_
  refine WL.v (Y.load Tryd.underlying30 rfl hmd (sz_apiDigest _) rfl) ?_
  refine as_apiDigest rfl (by simp) de_ fun g15 w12 hx12 hg15 hB15 => ?_
  have hlt15 := hB15.lt; have hz12 := hx12.size
  have hM15 := hB15.mem; have hz12 := hx12.size; have hE := hE.thenExt hx12
  refine WL.nil (hK25 _ _ ?_); try clear hK25
  refine CW.sr fun K26 hK26 => ?_
  refine WL.m rfl ?_
  refine WL.v (Y.load Tryd.underlying30 rfl hB15.mem (sz_apiDigest _) rfl) ?_
  refine WL.call Tryd.func8 rfl rfl rfl (pIn_any _ (ys.map shaD) d _ ((hI.ext hE).sl digC_length de_)) (by simp) ?_; rintro v67 w13 hR13
  obtain ⟨rfl, hx13⟩ := hR13
  have hz13 := hx13.size
  have hE := hE.thenExt hx13
  refine WL.v (Y.not rfl) ?_
  refine WL.nil (hK26 _ _ ?_); try clear hK26
  (first | refine cd_ rfl ?_ ?_ | refine ce_ rfl ?_ ?_ | refine cn_ rfl ?_ ?_ | refine cb_ rfl ?_ ?_) <;> intro ht27
  ·
   -- then
   refine CW.sr fun K28 hK28 => ?_
   refine WL.a rfl ?_
   refine WL.nil (hK28 _ _ ?_); try clear hK28
   refine CW.ret ⟨_, rfl, ?_⟩
   exact absurd (hids.2 d (List.mem_of_getElem? hd)) (by simpa using ht27)
  refine CW.skip ?_
  refine hK24 _ _ ?_; try clear hK24
  refine CW.region ?_
  refine WL.v (Y.add rfl rfl o2_) ?_
  refine WL.m rfl ?_
  refine WL.nil ?_
  exact ⟨x + 1, by show m - (x + 1) < m - x; omega, Fr.ok, by show x + 1 ≤ m; omega, hE⟩
 refine CW.exit ?_
 refine hK19 _ _ ?_; try clear hK19
 refine CW.seq fun K29 hK29 => ?_
 have hI := hI.ext hE
 have hO1 := hO1.ext hE
 have hE := hE6.thenExt hE
 have hIl := hI.lt
 have hO1l := hO1.lt
 refine CW.region ?_
 refine WL.st (St.buildSlice0 Tryd.underlying22 sz0_string) de_ fun v71 w14 hR14 => ?_
 obtain ⟨g71, rfl, hg71, hO14, hx14⟩ := hR14
 have hz14 := hx14.size
 have hE := hE.thenExt hx14
 have hI := hI.ext hx14
 have hO1 := hO1.ext hx14
 have hgl := hO14.lt g71 rfl
 refine WL.m rfl ?_
 refine WL.st (St.append (news := flatS xs) Tryd.underlying22 Tryd.underlying22 ai_str rfl rfl hO14 ((hu.ext hE).src strC_length) (one_flatSx xs) (by simp only [List.length_nil]; omega)) de_ fun v73 w15 hR15 => ?_
 obtain ⟨hO15, hc15, hf15⟩ := hR15
 have hz15 := hc15.size
 have hE := hE.step hc15 (fun k h => by simp [Value.ownBlock] at h; omega)
 have hI := hI.chg hc15 (fun k hk h => by simp [Value.ownBlock] at h; have := hIl k hk; omega)
 have hO1 := hO1.chg hc15 (fun k hk h => by simp [Value.ownBlock] at h; have := hO1l k hk; omega)
 have hf15b : ∀ k, v73.ownBlock = some k → g71 ≤ k := by
  rcases hf15 with h | h
  ·
   intro k hk; rw [h] at hk; simp [Value.ownBlock] at hk; omega
  ·
   intro k hk; have := h k hk; omega
 rw [List.nil_append] at hO15
 refine WL.m rfl ?_
 refine WL.st (St.append (news := flatS ms) Tryd.underlying22 Tryd.underlying22 ai_str rfl rfl hO15 ((hm.ext hE).src strC_length) (one_flatSx ms) (by rw [flat_length strC_length]; omega)) de_ fun v75 w16 hR16 => ?_
 obtain ⟨hO16, hc16, hf16⟩ := hR16
 have hz16 := hc16.size
 have hE := hE.step hc16 (fun k h => by have := hf15b k h; omega)
 have hI := hI.chg hc16 (fun k hk h => by have := hf15b k h; have := hIl k hk; omega)
 have hO1 := hO1.chg hc16 (fun k hk h => by have := hf15b k h; have := hO1l k hk; omega)
 have hO16 : Own w16 TStr 1 v75 (flatS (xs ++ ms)) := by simpa [flatS] using hO16
 refine WL.m rfl ?_
 refine WL.call Tryd.func4 rfl rfl rfl (reach_any _ _ (xs ++ ms) hs _ (hO16.sl strC_length de_) (fun x h => (List.mem_append.1 h).elim (hsx x) (hsm x)) (hv.ext hE) hsh (hK.ext hE)) (by simp) ?_; rintro v77 w17 hR17
 obtain ⟨q2, f2, zs, rfl, hC, hO17, hx17⟩ := hR17
 have hz17 := hx17.size
 have hE := hE.thenExt hx17
 have hI := hI.ext hx17
 have hO1 := hO1.ext hx17
 have hmore := rcP_more hA hC
 refine WL.m rfl ?_
 refine WL.v (Y.extract rfl rfl) ?_
 refine WL.v (Y.extract rfl rfl) ?_
 refine WL.a rfl ?_
 refine WL.a rfl ?_
 refine WL.nil (hK29 _ _ ?_); try clear hK29
 refine CW.sr fun K30 hK30 => ?_
 refine WL.m rfl ?_
 refine WL.v (Y.neq rfl rfl) ?_
 refine WL.m rfl ?_
 (first | refine WL.casesD (d := 82) rfl ?_ ?_ | refine WL.casesND (d := 82) rfl ?_ ?_ | refine WL.cases (d := 82) rfl ?_ ?_) <;> intro hg82
 ·
  -- t82 = T
  refine WL.g rfl rfl (Y.move rfl) ?_
  refine WL.g rfl rfl (Y.neq rfl rfl) ?_
  refine WL.v (Y.pick rfl rfl) ?_
  refine WL.m rfl ?_
  (first | refine WL.casesD (d := 86) rfl ?_ ?_ | refine WL.casesND (d := 86) rfl ?_ ?_ | refine WL.cases (d := 86) rfl ?_ ?_) <;> intro hg86
  ·
   -- t86 = T
   refine WL.o rfl rfl ?_
   refine WL.o rfl rfl ?_
   refine WL.o rfl rfl ?_
   refine WL.goffU rfl rfl de_ ?_
   refine WL.goffU rfl rfl de_ ?_
   refine WL.goffU rfl rfl de_ ?_
   refine WL.o rfl rfl ?_
   refine WL.v (Y.pick rfl rfl) ?_
   refine WL.m rfl ?_
   refine WL.g rfl rfl (Y.move rfl) ?_
   refine WL.gcall rfl rfl Tryd.func9 rfl rfl rfl (rRises_any _ (ys.map shaD) _ (hI.sl digC_length de_)) de_ ?_; rintro v97 w18 hR18
   obtain ⟨rfl, hx18⟩ := hR18
   have hz18 := hx18.size
   have hE := hE.thenExt hx18
   refine WL.v (Y.pick rfl rfl) ?_
   refine WL.m rfl ?_
   (first | refine WL.casesD (d := 99) rfl ?_ ?_ | refine WL.casesND (d := 99) rfl ?_ ?_ | refine WL.cases (d := 99) rfl ?_ ?_) <;> intro hg99
   ·
    -- t99 = T
    refine WL.gcall rfl rfl Tryd.func5 rfl rfl rfl (palive_any _ (hK.ext hE)) de_ ?_; rintro v100 w19 hR19
    obtain ⟨rfl, hx19⟩ := hR19
    have hz19 := hx19.size
    have hE := hE.thenExt hx19
    refine WL.v (Y.pick rfl rfl) ?_
    refine WL.a rfl ?_
    refine WL.nil (hK30 _ _ ?_); try clear hK30
    refine CW.ret ⟨_, rfl, ?_⟩
    exact ⟨rfl, hE⟩
   ·
    -- t99 = F
    refine WL.o rfl rfl ?_
    refine WL.v (Y.pick rfl rfl) ?_
    refine WL.a rfl ?_
    refine WL.nil (hK30 _ _ ?_); try clear hK30
    refine CW.ret ⟨_, rfl, ?_⟩
    exact absurd hids.1 (by simpa using hg99)
  ·
   -- t86 = F
   refine WL.g rfl rfl (Y.move rfl) ?_
   refine WL.g rfl rfl (Y.eql rfl rfl) ?_
   refine WL.g rfl rfl (Y.move rfl) ?_
   (first | refine WL.casesD (d := 89) rfl ?_ ?_ | refine WL.casesND (d := 89) rfl ?_ ?_ | refine WL.cases (d := 89) rfl ?_ ?_) <;> intro hg89
   ·
    -- t89 = T
    refine WL.g rfl rfl (Y.move rfl) ?_
    refine WL.g rfl rfl (Y.move rfl) ?_
    refine WL.gcall rfl rfl Tryd.func6 rfl rfl rfl (psame_any _ _ ys zs _ (hO1.sl strC_length de_) (hO17.sl strC_length de_)) de_ ?_; rintro v w20 ⟨rfl, hx20⟩; have hz20 := hx20.size; have hE := hE.thenExt hx20
    refine WL.g rfl rfl (Y.pick rfl rfl) ?_
    refine WL.v (Y.pick rfl rfl) ?_
    refine WL.m rfl ?_
    (first | refine WL.casesD (d := 95) rfl ?_ ?_ | refine WL.casesND (d := 95) rfl ?_ ?_ | refine WL.cases (d := 95) rfl ?_ ?_) <;> intro hg95
    ·
     -- t95 = T
     refine WL.g rfl rfl (Y.move rfl) ?_
     refine WL.gcall rfl rfl Tryd.func9 rfl rfl rfl (rRises_any _ (ys.map shaD) _ ((hI.ext hx20).sl digC_length de_)) de_ ?_; rintro v97 w21 hR21
     obtain ⟨rfl, hx21⟩ := hR21
     have hz21 := hx21.size
     have hE := hE.thenExt hx21
     refine WL.v (Y.pick rfl rfl) ?_
     refine WL.m rfl ?_
     (first | refine WL.casesD (d := 99) rfl ?_ ?_ | refine WL.casesND (d := 99) rfl ?_ ?_ | refine WL.cases (d := 99) rfl ?_ ?_) <;> intro hg99
     ·
      -- t99 = T
      refine WL.gcall rfl rfl Tryd.func5 rfl rfl rfl (palive_any _ (hK.ext hE)) de_ ?_; rintro v100 w22 hR22
      obtain ⟨rfl, hx22⟩ := hR22
      have hz22 := hx22.size
      have hE := hE.thenExt hx22
      refine WL.v (Y.pick rfl rfl) ?_
      refine WL.a rfl ?_
      refine WL.nil (hK30 _ _ ?_); try clear hK30
      refine CW.ret ⟨_, rfl, ?_⟩
      exact ⟨rfl, hE⟩
     ·
      -- t99 = F
      refine WL.o rfl rfl ?_
      refine WL.v (Y.pick rfl rfl) ?_
      refine WL.a rfl ?_
      refine WL.nil (hK30 _ _ ?_); try clear hK30
      refine CW.ret ⟨_, rfl, ?_⟩
      exact absurd hids.1 (by simpa using hg99)
    ·
     -- t95 = F
     refine WL.o rfl rfl ?_
     refine WL.o rfl rfl ?_
     refine WL.v (Y.pick rfl rfl) ?_
     refine WL.m rfl ?_
     refine WL.o rfl rfl ?_
     refine WL.v (Y.pick rfl rfl) ?_
     refine WL.a rfl ?_
     refine WL.nil (hK30 _ _ ?_); try clear hK30
     refine CW.ret ⟨_, rfl, ?_⟩
     rcases hmore with h | h
     ·
      exact absurd hg89 h.1
     ·
      exact absurd h.2.symm (by simpa using hg95)
   ·
    -- t89 = F
    refine WL.o rfl rfl ?_
    refine WL.o rfl rfl ?_
    refine WL.o rfl rfl ?_
    refine WL.g rfl rfl (Y.pick rfl rfl) ?_
    refine WL.v (Y.pick rfl rfl) ?_
    refine WL.m rfl ?_
    refine WL.o rfl rfl ?_
    refine WL.o rfl rfl ?_
    refine WL.v (Y.pick rfl rfl) ?_
    refine WL.m rfl ?_
    refine WL.o rfl rfl ?_
    refine WL.v (Y.pick rfl rfl) ?_
    refine WL.a rfl ?_
    refine WL.nil (hK30 _ _ ?_); try clear hK30
    refine CW.ret ⟨_, rfl, ?_⟩
    rcases hmore with h | h
    ·
     exact absurd h.2 (by simpa using hg86)
    ·
     exact absurd h.1 hg89
 ·
  -- t82 = F
  refine WL.o rfl rfl ?_
  refine WL.o rfl rfl ?_
  refine WL.v (Y.pick rfl rfl) ?_
  refine WL.m rfl ?_
  refine WL.g rfl rfl (Y.move rfl) ?_
  refine WL.g rfl rfl (Y.eql rfl rfl) ?_
  refine WL.g rfl rfl (Y.move rfl) ?_
  (first | refine WL.casesD (d := 89) rfl ?_ ?_ | refine WL.casesND (d := 89) rfl ?_ ?_ | refine WL.cases (d := 89) rfl ?_ ?_) <;> intro hg89
  ·
   -- t89 = T
   refine WL.g rfl rfl (Y.move rfl) ?_
   refine WL.g rfl rfl (Y.move rfl) ?_
   refine WL.gcall rfl rfl Tryd.func6 rfl rfl rfl (psame_any _ _ ys zs _ (hO1.sl strC_length de_) (hO17.sl strC_length de_)) de_ ?_; rintro v w23 ⟨rfl, hx23⟩; have hz23 := hx23.size; have hE := hE.thenExt hx23
   refine WL.g rfl rfl (Y.pick rfl rfl) ?_
   refine WL.v (Y.pick rfl rfl) ?_
   refine WL.m rfl ?_
   (first | refine WL.casesD (d := 95) rfl ?_ ?_ | refine WL.casesND (d := 95) rfl ?_ ?_ | refine WL.cases (d := 95) rfl ?_ ?_) <;> intro hg95
   ·
    -- t95 = T
    refine WL.g rfl rfl (Y.move rfl) ?_
    refine WL.gcall rfl rfl Tryd.func9 rfl rfl rfl (rRises_any _ (ys.map shaD) _ ((hI.ext hx23).sl digC_length de_)) de_ ?_; rintro v97 w24 hR24
    obtain ⟨rfl, hx24⟩ := hR24
    have hz24 := hx24.size
    have hE := hE.thenExt hx24
    refine WL.v (Y.pick rfl rfl) ?_
    refine WL.m rfl ?_
    (first | refine WL.casesD (d := 99) rfl ?_ ?_ | refine WL.casesND (d := 99) rfl ?_ ?_ | refine WL.cases (d := 99) rfl ?_ ?_) <;> intro hg99
    ·
     -- t99 = T
     refine WL.gcall rfl rfl Tryd.func5 rfl rfl rfl (palive_any _ (hK.ext hE)) de_ ?_; rintro v100 w25 hR25
     obtain ⟨rfl, hx25⟩ := hR25
     have hz25 := hx25.size
     have hE := hE.thenExt hx25
     refine WL.v (Y.pick rfl rfl) ?_
     refine WL.a rfl ?_
     refine WL.nil (hK30 _ _ ?_); try clear hK30
     refine CW.ret ⟨_, rfl, ?_⟩
     exact ⟨rfl, hE⟩
    ·
     -- t99 = F
     refine WL.o rfl rfl ?_
     refine WL.v (Y.pick rfl rfl) ?_
     refine WL.a rfl ?_
     refine WL.nil (hK30 _ _ ?_); try clear hK30
     refine CW.ret ⟨_, rfl, ?_⟩
     exact absurd hids.1 (by simpa using hg99)
   ·
    -- t95 = F
    refine WL.o rfl rfl ?_
    refine WL.o rfl rfl ?_
    refine WL.v (Y.pick rfl rfl) ?_
    refine WL.m rfl ?_
    refine WL.o rfl rfl ?_
    refine WL.v (Y.pick rfl rfl) ?_
    refine WL.a rfl ?_
    refine WL.nil (hK30 _ _ ?_); try clear hK30
    refine CW.ret ⟨_, rfl, ?_⟩
    rcases hmore with h | h
    ·
     exact absurd hg89 h.1
    ·
     exact absurd h.2.symm (by simpa using hg95)
  ·
   -- t89 = F
   refine WL.o rfl rfl ?_
   refine WL.o rfl rfl ?_
   refine WL.o rfl rfl ?_
   refine WL.g rfl rfl (Y.pick rfl rfl) ?_
   refine WL.v (Y.pick rfl rfl) ?_
   refine WL.m rfl ?_
   refine WL.o rfl rfl ?_
   refine WL.o rfl rfl ?_
   refine WL.v (Y.pick rfl rfl) ?_
   refine WL.m rfl ?_
   refine WL.o rfl rfl ?_
   refine WL.v (Y.pick rfl rfl) ?_
   refine WL.a rfl ?_
   refine WL.nil (hK30 _ _ ?_); try clear hK30
   refine CW.ret ⟨_, rfl, ?_⟩
   rcases hmore with h | h
   ·
    exact absurd (Decidable.not_not.1 (by simpa using hg82)) h.1
   ·
    exact absurd h.1 hg89
end Go.Proofs.YtfanmpbapabboaaDoor
