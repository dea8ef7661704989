/- The reference's reading of a list of nodes: Find, wrong, Check, Wrong, walked. No condition. -/
import Derived.Test.YtecolkngbcgmcaaGb
set_option linter.unusedSimpArgs false
set_option linter.unusedVariables false
namespace Go.Pl
open Go.Fw
/-- The place of a digest; -1: it is none of them. -/
def findI (ids : List Dig) (d : Dig) : Int := if d ∈ ids then (ids.idxOf d : Int) else -1
theorem findI_neg {ids : List Dig} {d : Dig} : findI ids d < 0 ↔ d ∉ ids := by
  unfold findI
  split <;> rename_i h
  · exact ⟨fun x => by omega, fun x => absurd h x⟩
  · exact ⟨fun _ => h, fun _ => by omega⟩
theorem findI_at {ids : List Dig} {d : Dig} {i : Nat} (hi : ids[i]? = some d) (h : ∀ j, j < i → ids[j]? ≠ some d) : findI ids d = (i : Int) := by
  have hm : d ∈ ids := List.mem_of_getElem? hi
  rw [findI, if_pos hm]
  have hlt := List.idxOf_lt_length_iff.2 hm
  have h1 : ids[ids.idxOf d]? = some d := by
    rw [List.getElem?_eq_getElem hlt, List.getElem_idxOf hlt]
  have h2 : ¬ ids.idxOf d < i := fun hc => h _ hc h1
  have h3 : ids.idxOf d ≤ i := by
    obtain ⟨hil, hid⟩ := List.getElem?_eq_some_iff.1 hi
    refine Nat.le_of_not_lt fun hc => ?_
    have := List.not_of_lt_findIdx (p := fun x => x == d) (xs := ids) hc
    simp [hid] at this
  omega
/-- What is wrong with a call with these. -/
def wrongQ (l : List Nd) (ids : List Dig) : Int := if (readE l).2 ≠ 0 then (readE l).2 else if ∃ d ∈ ids, d ∉ idsL l then 5 else 0
end Go.Pl
namespace Go.Proofs.Ytecolkngbcgmcaa
open Go.RowKit Go.Fw Go.Pl Go.Sort
theorem Nds.take {w : World} {A : Option Addr} {m c : Nat} {l : List NdV} (h : Nds w (.slice A m c) l) {i : Nat} (hi : i ≤ m) : Nds w (.slice A i c) (l.take i) := by
  obtain ⟨⟨A', m', c', he, hl, hmc, hcm, hx⟩, hp⟩ := h
  cases he
  refine ⟨⟨A, i, c, rfl, by rw [List.length_take]; omega, by omega, hcm, fun j x hj => ?_⟩, fun x hx => hp x (List.mem_of_mem_take hx)⟩
  rw [List.getElem?_take] at hj
  split at hj
  · exact hx j x hj
  · cases hj

theorem rFind_any (u : Value) (l : List NdV) (d : Dig) (w : World) (hl : Nds w u l) : Calls Try.prog 26 #[u, digV d] w (Ret fun v w' => v = .int .i64 (findI (idsL (ndsL l)) d) ∧ Ext w w') := by
  have hl0 := hl
  obtain ⟨⟨A, m, c, rfl, hlm, hmc, hcm, hlx⟩, hps⟩ := hl
  unfold maxLen at hcm
  refine calls_of_CW 20 [4] [(0, .slice A m c), (1, digV d)] Try.func26 rfl rfl rfl (by simp) args2 ?_
  have hE : Ext w w := Chg.refl
  refine CW.seq fun K1 hK1 => ?_
  refine CW.region ?_   -- region 0
  refine WL.box rfl rfl (by decide) fun g3 w1 hx1 hg3 hB3 => ?_   -- t3 := box 45 t1
  have hlt3 := hB3.lt; have hz1 := hx1.size
  have hM3 := hB3.mem; have hz1 := hx1.size; have hE := hE.thenExt hx1
  refine WL.val (Y.assign rfl) (by decide) ?_   -- t4 := assign c(0:i64)
  refine WL.nil ?_
  refine hK1 _ _ ?_; try clear hK1 K1
  refine CW.seq fun K2 hK2 => ?_
  refine CW.seq fun K3 hK3 => ?_
  refine CW.region ?_   -- region 1
  refine WL.val (Y.assign rfl) (by decide) ?_   -- t5 := assign c(0:i64)
  refine WL.nil ?_
  refine hK3 _ _ ?_; try clear hK3 K3
  refine CW.block ?_   -- block 0
  refine CW.loop (X := Nat) (fun x => [(0, .slice A m c), (3, .pointer (some ⟨g3, 0, none⟩)), (5, .int .i64 (x : Int))]) (fun x w0 => x ≤ m ∧ (∀ j, j < x → (idsL (ndsL l))[j]? ≠ some d) ∧ Ext w w0 ∧ Blk w0 g3 45 (digC d)) (fun x => m - x) 0 (by repeat (first | exact Fr.le.nil | refine Fr.le.cons rfl ?_)) ⟨Nat.zero_le _, (fun j h => by omega), hE, hB3⟩ ?_
  intro x w2 hl2
  obtain ⟨hxm, hno, hE, hB3⟩ := hl2
  refine CW.seq fun K4 hK4 => ?_
  refine CW.seq fun K5 hK5 => ?_
  refine CW.region ?_   -- region 2
  refine WL.val (Y.move rfl) (by decide) ?_   -- t6 := move t5
  refine WL.val (Y.move rfl) (by decide) ?_   -- t7 := move t0
  refine WL.val (Y.len_slice Try.underlying22 rfl) (by decide) ?_   -- t8 := call len(t7) : 22
  refine WL.val (Y.lss rfl rfl) (by decide) ?_   -- t9 := binOp lss 3 t6 t8 3
  refine WL.nil ?_
  refine hK5 _ _ ?_; try clear hK5 K5
  first | refine CW.condD rfl (fun ht6 => ?_) (fun ht6 => ?_) | refine CW.condND rfl (fun ht6 => ?_) (fun ht6 => ?_) | refine CW.condN rfl (fun ht6 => ?_) (fun ht6 => ?_) | refine CW.cond rfl (fun ht6 => ?_) (fun ht6 => ?_)
  · -- then
    refine CW.skip ?_
    refine hK4 _ _ ?_; try clear hK4 K4
    refine CW.seq fun K7 hK7 => ?_
    refine CW.block ?_   -- block 1
    refine CW.seq fun K8 hK8 => ?_
    obtain ⟨y, hy⟩ : ∃ y, l[x]? = some y := ⟨_, List.getElem?_eq_getElem (by omega)⟩
    obtain ⟨a, rfl, hma⟩ := hlx _ _ hy
    have hyi : (idsL (ndsL l))[x]? = some y.n.id := by simp [hy]
    refine CW.quiet (fun wq => Ext w2 wq) (by kernel_rfl) (by kernel_rfl) Chg.drew ?_
    refine QL.val (fun wq hq => Y.move rfl) (by decide) ?_   -- t12 := move t0
    refine QL.val (fun wq hq => Y.move rfl) (by decide) ?_   -- t13 := move t5
    refine QL.val (fun wq hq => Y.indexAddrN Try.underlying22 rfl rfl sz0_apiNode (by omega)) (by decide) ?_   -- t14 := indexAddr 22 t12 t13
    refine QL.val (fun wq hq => Y.fieldAddr fo_apiNode0 rfl) (by decide) ?_   -- t15 := fieldAddr 48 t14 0
    refine QL.val (fun wq hq => Y.load Try.underlying45 rfl ((hma.ext hE).ext hq).node0 (sz_apiDigest _) rfl) (by decide) ?_   -- t16 := load 45 t15
    refine QL.val (fun wq hq => Y.load Try.underlying45 rfl (hB3.ext hq).mem (sz_apiDigest _) rfl) (by decide) ?_   -- t17 := load 45 t3
    refine QL.val (fun wq hq => Y.eql_apiDigest rfl rfl) (by decide) ?_   -- t18 := binOp eql 45 t16 t17 45
    refine QL.nil fun w3 hx3 => ?_
    have hz3 := hx3.size
    have hE := hE.thenExt hx3
    have hB3 := hB3.ext hx3
    refine hK8 _ _ ?_; try clear hK8 K8
    first | refine CW.condD rfl (fun ht9 => ?_) (fun ht9 => ?_) | refine CW.condND rfl (fun ht9 => ?_) (fun ht9 => ?_) | refine CW.condN rfl (fun ht9 => ?_) (fun ht9 => ?_) | refine CW.cond rfl (fun ht9 => ?_) (fun ht9 => ?_)
    · -- then
      refine CW.seq fun K10 hK10 => ?_
      refine CW.region ?_   -- region 5
      refine WL.val (Y.move rfl) (by decide) ?_   -- t19 := move t5
      refine WL.val (Y.assign rfl) (by decide) ?_   -- t4 := assign t19
      refine WL.nil ?_
      refine hK10 _ _ ?_; try clear hK10 K10
      refine CW.ret ⟨_, rfl, ?_⟩
      exact ⟨by rw [findI_at (by rw [← ht9]; exact hyi) hno], hE⟩
    -- else
    refine CW.skip ?_
    refine hK7 _ _ ?_; try clear hK7 K7
    refine CW.region ?_   -- region 3
    refine WL.val (Y.move rfl) (by decide) ?_   -- t10 := move t5
    refine WL.val (Y.add rfl rfl ⟨by omega, by omega⟩) (by decide) ?_   -- t11 := binOp add 3 t10 c(1:i64) 3
    refine WL.val (Y.assign rfl) (by decide) ?_   -- t5 := assign t11
    refine WL.nil ?_
    refine ⟨x + 1, by show m - (x + 1) < m - x; omega, (by repeat (first | exact Fr.le.nil | refine Fr.le.cons rfl ?_)), by show x + 1 ≤ m; omega, ?_, hE, hB3⟩
    intro j hj hje
    by_cases e : j = x
    · subst e; rw [hyi] at hje; cases hje; exact ht9 rfl
    · exact hno j (by omega) hje
  -- else
  refine CW.exit ?_   -- exit 0
  refine hK2 _ _ ?_; try clear hK2 K2
  refine CW.seq fun K11 hK11 => ?_
  refine CW.region ?_   -- region 6
  refine WL.val (Y.assign rfl) (by decide) ?_   -- t4 := assign c(-1:i64)
  refine WL.nil ?_
  refine hK11 _ _ ?_; try clear hK11 K11
  refine CW.ret ⟨_, rfl, ?_⟩
  refine ⟨?_, hE⟩
  have hn : d ∉ idsL (ndsL l) := fun h => by
    obtain ⟨j, hj⟩ := List.mem_iff_getElem?.1 h
    have hlt := (List.getElem?_eq_some_iff.1 hj).1
    simp only [List.length_map] at hlt
    exact hno j (by omega) hj
  rw [findI, if_neg hn]
set_option maxHeartbeats 1000000 in
theorem rwrong7_any (u : Value) (l : List NdV) (k : Nat) (y : NdV) (w : World) (hl : Nds w u l) (hk : l[k]? = some y) : Calls Try.prog 40 #[u, .int .i64 (k : Int)] w (Ret fun v w' => v = .int .i64 (wrongE (idsL ((ndsL l).take k)) y.n) ∧ Ext w w') := by
  have hl0 := hl
  obtain ⟨⟨A, m, c, rfl, hlm, hmc, hcm, hlx⟩, hps⟩ := hl
  unfold maxLen at hcm
  obtain ⟨⟨id, ps⟩, Ay, cy⟩ := y
  obtain ⟨a, rfl, hma⟩ := hlx _ _ hk
  have hpy := hps _ (List.mem_of_getElem? hk)
  have hpy0 := hpy
  dsimp only [NdV.pv] at hpy hpy0
  obtain ⟨_, _, _, he, hpl, hcy, hcy2, _⟩ := hpy
  cases he
  unfold maxLen at hcy2
  have hkm : k < m := by have := (List.getElem?_eq_some_iff.1 hk).1; omega
  have htk : idsL (ndsL (l.take k)) = idsL ((ndsL l).take k) := by simp [idsL, ndsL, List.map_take]
  dsimp only
  refine calls_of_CW 58 [4] [(0, .slice (some a) m c), (1, .int .i64 (k : Int))] Try.func40 rfl rfl rfl (by simp) args2 ?_
  have hE : Ext w w := Chg.refl
  refine CW.seq fun K1 hK1 => ?_
  refine CW.region ?_   -- region 0
  refine WL.val (Y.assign rfl) (by decide) ?_   -- t4 := assign c(0:i64)
  refine WL.nil ?_
  refine hK1 _ _ ?_; try clear hK1 K1
  refine CW.seq fun K2 hK2 => ?_
  refine CW.region ?_   -- region 1
  refine WL.val (Y.move rfl) (by decide) ?_   -- t8 := move t0
  refine WL.val (Y.move rfl) (by decide) ?_   -- t9 := move t1
  refine WL.val (Y.indexAddrN Try.underlying22 rfl rfl sz0_apiNode (by omega)) (by decide) ?_   -- t10 := indexAddr 22 t8 t9
  refine WL.val (Y.fieldAddr fo_apiNode1 rfl) (by decide) ?_   -- t11 := fieldAddr 48 t10 1
  refine WL.val (Y.load1 Try.underlying23 rfl hma.node1 rfl) (by decide) ?_   -- t12 := load 23 t11
  refine WL.val (Y.assign rfl) (by decide) ?_   -- t5 := assign t12
  refine WL.nil ?_
  refine hK2 _ _ ?_; try clear hK2 K2
  refine CW.seq fun K3 hK3 => ?_
  refine CW.seq fun K4 hK4 => ?_
  refine CW.region ?_   -- region 2
  refine WL.val (Y.move rfl) (by decide) ?_   -- t13 := move t5
  refine WL.val (Y.len_slice Try.underlying23 rfl) (by decide) ?_   -- t14 := call len(t13) : 23
  refine WL.val (Y.gtr rfl rfl) (by decide) ?_   -- t15 := binOp gtr 3 t14 c(8:i64) 3
  refine WL.nil ?_
  refine hK4 _ _ ?_; try clear hK4 K4
  first | refine CW.condD rfl (fun ht5 => ?_) (fun ht5 => ?_) | refine CW.condND rfl (fun ht5 => ?_) (fun ht5 => ?_) | refine CW.condN rfl (fun ht5 => ?_) (fun ht5 => ?_) | refine CW.cond rfl (fun ht5 => ?_) (fun ht5 => ?_)
  · -- then
    refine CW.seq fun K6 hK6 => ?_
    refine CW.region ?_   -- region 3
    refine WL.val (Y.assign rfl) (by decide) ?_   -- t4 := assign c(4:i64)
    refine WL.nil ?_
    refine hK6 _ _ ?_; try clear hK6 K6
    refine CW.ret ⟨_, rfl, ?_⟩
    exact ⟨by rw [wrongE, if_pos (by show 8 < ps.length; omega)], hE⟩
  -- else
  refine CW.skip ?_
  refine hK3 _ _ ?_; try clear hK3 K3
  refine CW.seq fun K7 hK7 => ?_
  refine CW.seq fun K8 hK8 => ?_
  refine CW.region ?_   -- region 4
  refine WL.val (Y.assign rfl) (by decide) ?_   -- t6 := assign c(1:i64)
  refine WL.nil ?_
  refine hK8 _ _ ?_; try clear hK8 K8
  refine CW.block ?_   -- block 0
  refine CW.loop (X := Nat) (fun x => [(0, .slice (some a) m c), (1, .int .i64 (k : Int)), (5, .slice Ay ps.length cy), (6, .int .i64 (x : Int))]) (fun x w0 => 1 ≤ x ∧ (x ≤ ps.length ∨ x = 1) ∧ (∀ i a b, i + 1 < x → ps[i]? = some a → ps[i + 1]? = some b → lessB a b = true) ∧ Ext w w0) (fun x => ps.length - x) 1 (by repeat (first | exact Fr.le.nil | refine Fr.le.cons rfl ?_)) ⟨Nat.le_refl _, .inr rfl, (fun i a b h => by omega), hE⟩ ?_
  intro x w1 hl1
  obtain ⟨hx1, hxl, hris, hE⟩ := hl1
  refine CW.seq fun K9 hK9 => ?_
  refine CW.seq fun K10 hK10 => ?_
  refine CW.region ?_   -- region 5
  refine WL.val (Y.move rfl) (by decide) ?_   -- t16 := move t6
  refine WL.val (Y.move rfl) (by decide) ?_   -- t17 := move t5
  refine WL.val (Y.len_slice Try.underlying23 rfl) (by decide) ?_   -- t18 := call len(t17) : 23
  refine WL.val (Y.lss rfl rfl) (by decide) ?_   -- t19 := binOp lss 3 t16 t18 3
  refine WL.nil ?_
  refine hK10 _ _ ?_; try clear hK10 K10
  first | refine CW.condD rfl (fun ht11 => ?_) (fun ht11 => ?_) | refine CW.condND rfl (fun ht11 => ?_) (fun ht11 => ?_) | refine CW.condN rfl (fun ht11 => ?_) (fun ht11 => ?_) | refine CW.cond rfl (fun ht11 => ?_) (fun ht11 => ?_)
  · -- then
    refine CW.skip ?_
    refine hK9 _ _ ?_; try clear hK9 K9
    refine CW.seq fun K12 hK12 => ?_
    refine CW.block ?_   -- block 1
    refine CW.seq fun K13 hK13 => ?_
    refine CW.quiet (fun wq => Ext w1 wq) (by kernel_rfl) (by kernel_rfl) Chg.drew ?_
    obtain ⟨p, hp⟩ : ∃ p, ps[x]? = some p := ⟨_, List.getElem?_eq_getElem (by omega)⟩
    obtain ⟨q, hq0⟩ : ∃ q, ps[x - 1]? = some q := ⟨_, List.getElem?_eq_getElem (by omega)⟩
    obtain ⟨b, rfl, hmp⟩ := hpy0.at hp
    obtain ⟨b2, hb2, hmq⟩ := hpy0.at hq0
    cases hb2
    refine QL.val (fun wq hq => Y.move rfl) (by decide) ?_   -- t22
    refine QL.val (fun wq hq => Y.move rfl) (by decide) ?_   -- t23 := move t6
    refine QL.val (fun wq hq => Y.subN (q := 1) rfl rfl (by omega) (by omega)) (by decide) ?_   -- t24 := binOp sub 3 t23 c(1:i64) 3
    refine QL.val (fun wq hq => Y.indexAddrN Try.underlying23 rfl rfl sz0_apiDigest (by omega)) (by decide) ?_   -- t25 := indexAddr 23 t22 t24
    refine QL.val (fun wq hq => Y.load Try.underlying45 rfl ((hmq.ext hE).ext hq) (sz_apiDigest _) rfl) (by decide) ?_   -- t26 := load 45 t25
    refine QL.val (fun wq hq => Y.move rfl) (by decide) ?_   -- t27 := move t5
    refine QL.val (fun wq hq => Y.move rfl) (by decide) ?_   -- t28 := move t6
    refine QL.val (fun wq hq => Y.indexAddrN Try.underlying23 rfl rfl sz0_apiDigest (by omega)) (by decide) ?_   -- t29 := indexAddr 23 t27 t28
    refine QL.val (fun wq hq => Y.load Try.underlying45 rfl ((hmp.ext hE).ext hq) (sz_apiDigest _) rfl) (by decide) ?_   -- t30 := load 45 t29
    refine QL.call Try.func51 rfl rfl rfl (fun wq hq => ret_ext (rLess_any _ _ _) hq) (by simp) ?_   -- t31 := call F51(t26, t30) : 45,45
    refine QL.val (fun wq hq => Y.not rfl) (by decide) ?_   -- t32 := unOp not 4 t31
    refine QL.nil fun w2 hx2 => ?_
    have hz2 := hx2.size
    have hE := hE.thenExt hx2
    refine hK13 _ _ ?_; try clear hK13 K13
    first | refine CW.condD rfl (fun ht14 => ?_) (fun ht14 => ?_) | refine CW.condND rfl (fun ht14 => ?_) (fun ht14 => ?_) | refine CW.condN rfl (fun ht14 => ?_) (fun ht14 => ?_) | refine CW.cond rfl (fun ht14 => ?_) (fun ht14 => ?_)
    · -- then
      refine CW.seq fun K15 hK15 => ?_
      refine CW.region ?_   -- region 8
      refine WL.val (Y.assign rfl) (by decide) ?_   -- t4 := assign c(7:i64)
      refine WL.nil ?_
      refine hK15 _ _ ?_; try clear hK15 K15
      refine CW.ret ⟨_, rfl, ?_⟩
      exact ⟨by rw [wrongE, if_neg (by show ¬ 8 < ps.length; omega), if_pos (risB_not hq0 (by rw [Nat.sub_add_cancel (by omega)]; exact hp) (by first | assumption | simp_all))], hE⟩
    -- else
    refine CW.skip ?_
    refine hK12 _ _ ?_; try clear hK12 K12
    refine CW.region ?_   -- region 6
    refine WL.val (Y.move rfl) (by decide) ?_   -- t20 := move t6
    refine WL.val (Y.add rfl rfl ⟨by omega, by omega⟩) (by decide) ?_   -- t21 := binOp add 3 t20 c(1:i64) 3
    refine WL.val (Y.assign rfl) (by decide) ?_   -- t6 := assign t21
    refine WL.nil ?_
    refine ⟨x + 1, by show ps.length - (x + 1) < ps.length - x; omega, (by repeat (first | exact Fr.le.nil | refine Fr.le.cons rfl ?_)), by omega, .inl (by show x + 1 ≤ ps.length; omega), ?_, hE⟩
    intro i a2 b2 hi h1 h2
    by_cases e : i + 1 < x
    · exact hris i a2 b2 e h1 h2
    · have e2 : i = x - 1 := by omega
      subst e2
      rw [Nat.sub_add_cancel (by omega), hp] at h2
      rw [hq0] at h1
      cases h1; cases h2
      first | assumption | simp_all
  -- else
  refine CW.exit ?_   -- exit 0
  refine hK7 _ _ ?_; try clear hK7 K7
  refine CW.seq fun K16 hK16 => ?_
  refine CW.seq fun K17 hK17 => ?_
  refine CW.quiet (fun wq => Ext w1 wq) (by kernel_rfl) (by kernel_rfl) Chg.drew ?_
  have hrisT : risB ps = true := risB_at fun i a b h1 h2 => hris i a b (by have := (List.getElem?_eq_some_iff.1 h2).1; omega) h1 h2
  refine QL.val (fun wq hq => Y.move rfl) (by decide) ?_   -- t33
  refine QL.val (fun wq hq => Y.move rfl) (by decide) ?_   -- t34 := move t1
  refine QL.val (fun wq hq => Y.slice_hi Try.underlying22 rfl rfl sz0_apiNode rfl (by omega)) (by decide) ?_   -- t35 := slice 22 t33 none t34 none
  refine QL.val (fun wq hq => Y.move rfl) (by decide) ?_   -- t36 := move t0
  refine QL.val (fun wq hq => Y.move rfl) (by decide) ?_   -- t37 := move t1
  refine QL.val (fun wq hq => Y.indexAddrN Try.underlying22 rfl rfl sz0_apiNode (by omega)) (by decide) ?_   -- t38 := indexAddr 22 t36 t37
  refine QL.val (fun wq hq => Y.fieldAddr fo_apiNode0 rfl) (by decide) ?_   -- t39 := fieldAddr 48 t38 0
  refine QL.val (fun wq hq => Y.load Try.underlying45 rfl ((hma.ext hE).ext hq).node0 (sz_apiDigest _) rfl) (by decide) ?_   -- t40 := load 45 t39
  refine QL.call Try.func26 rfl rfl rfl (fun wq hq => ret_ext (rFind_any _ _ id _ (((Nds.take hl0 (by omega)).ext hE).ext hq)) hq) (by simp) ?_   -- t41 := call F26(t35, t40) : 22,45
  refine QL.val (fun wq hq => Y.geq rfl rfl) (by decide) ?_   -- t42 := binOp geq 3 t41 c(0:i64) 3
  refine QL.nil fun w3 hx3 => ?_
  have hz3 := hx3.size
  have hE := hE.thenExt hx3
  refine hK17 _ _ ?_; try clear hK17 K17
  first | refine CW.condD rfl (fun ht18 => ?_) (fun ht18 => ?_) | refine CW.condND rfl (fun ht18 => ?_) (fun ht18 => ?_) | refine CW.condN rfl (fun ht18 => ?_) (fun ht18 => ?_) | refine CW.cond rfl (fun ht18 => ?_) (fun ht18 => ?_)
  · -- then
    refine CW.seq fun K19 hK19 => ?_
    refine CW.region ?_   -- region 10
    refine WL.val (Y.assign rfl) (by decide) ?_   -- t4 := assign c(6:i64)
    refine WL.nil ?_
    refine hK19 _ _ ?_; try clear hK19 K19
    refine CW.ret ⟨_, rfl, ?_⟩
    have h9 : 0 ≤ findI (idsL (ndsL (l.take k))) id := by assumption
    rw [htk] at h9
    exact ⟨by rw [wrongE, if_neg (by show ¬ 8 < ps.length; omega), if_neg (by show ¬ risB ps = false; rw [hrisT]; decide), if_pos (Decidable.not_not.1 fun h => by have h8 : findI (idsL ((ndsL l).take k)) id < 0 := findI_neg.2 h; omega)], hE⟩
  -- else
  refine CW.skip ?_
  refine hK16 _ _ ?_; try clear hK16 K16
  refine CW.seq fun K20 hK20 => ?_
  refine CW.seq fun K21 hK21 => ?_
  refine CW.region ?_   -- region 11
  refine WL.val (Y.assign rfl) (by decide) ?_   -- t7 := assign c(0:i64)
  refine WL.nil ?_
  refine hK21 _ _ ?_; try clear hK21 K21
  refine CW.block ?_   -- block 2
  refine CW.loop (X := Nat) (fun x => [(0, .slice (some a) m c), (1, .int .i64 (k : Int)), (5, .slice Ay ps.length cy), (7, .int .i64 (x : Int))]) (fun x w0 => x ≤ ps.length ∧ (∀ i p, i < x → ps[i]? = some p → p ∈ idsL ((ndsL l).take k)) ∧ Ext w w0) (fun x => ps.length - x) 0 (by repeat (first | exact Fr.le.nil | refine Fr.le.cons rfl ?_)) ⟨Nat.zero_le _, (fun i a h => by omega), hE⟩ ?_
  intro x w4 hl4
  have hnid : ¬ id ∈ idsL ((ndsL l).take k) := by
    have h9 : ¬ 0 ≤ findI (idsL (ndsL (l.take k))) id := by assumption
    rw [htk] at h9
    exact findI_neg.1 (by omega)
  obtain ⟨hxl, hin, hE⟩ := hl4
  refine CW.seq fun K22 hK22 => ?_
  refine CW.seq fun K23 hK23 => ?_
  refine CW.region ?_   -- region 12
  refine WL.val (Y.move rfl) (by decide) ?_   -- t43 := move t7
  refine WL.val (Y.move rfl) (by decide) ?_   -- t44 := move t5
  refine WL.val (Y.len_slice Try.underlying23 rfl) (by decide) ?_   -- t45 := call len(t44) : 23
  refine WL.val (Y.lss rfl rfl) (by decide) ?_   -- t46 := binOp lss 3 t43 t45 3
  refine WL.nil ?_
  refine hK23 _ _ ?_; try clear hK23 K23
  first | refine CW.condD rfl (fun ht24 => ?_) (fun ht24 => ?_) | refine CW.condND rfl (fun ht24 => ?_) (fun ht24 => ?_) | refine CW.condN rfl (fun ht24 => ?_) (fun ht24 => ?_) | refine CW.cond rfl (fun ht24 => ?_) (fun ht24 => ?_)
  · -- then
    refine CW.skip ?_
    refine hK22 _ _ ?_; try clear hK22 K22
    refine CW.seq fun K25 hK25 => ?_
    refine CW.block ?_   -- block 3
    refine CW.seq fun K26 hK26 => ?_
    refine CW.quiet (fun wq => Ext w4 wq) (by kernel_rfl) (by kernel_rfl) Chg.drew ?_
    obtain ⟨p, hp⟩ : ∃ p, ps[x]? = some p := ⟨_, List.getElem?_eq_getElem (by omega)⟩
    obtain ⟨b, rfl, hmp⟩ := hpy0.at hp
    refine QL.val (fun wq hq => Y.move rfl) (by decide) ?_   -- t49
    refine QL.val (fun wq hq => Y.move rfl) (by decide) ?_   -- t50 := move t1
    refine QL.val (fun wq hq => Y.slice_hi Try.underlying22 rfl rfl sz0_apiNode rfl (by omega)) (by decide) ?_   -- t51 := slice 22 t49 none t50 none
    refine QL.val (fun wq hq => Y.move rfl) (by decide) ?_   -- t52 := move t5
    refine QL.val (fun wq hq => Y.move rfl) (by decide) ?_   -- t53 := move t7
    refine QL.val (fun wq hq => Y.indexAddrN Try.underlying23 rfl rfl sz0_apiDigest (by omega)) (by decide) ?_   -- t54 := indexAddr 23 t52 t53
    refine QL.val (fun wq hq => Y.load Try.underlying45 rfl ((hmp.ext hE).ext hq) (sz_apiDigest _) rfl) (by decide) ?_   -- t55 := load 45 t54
    refine QL.call Try.func26 rfl rfl rfl (fun wq hq => ret_ext (rFind_any _ _ p _ (((Nds.take hl0 (by omega)).ext hE).ext hq)) hq) (by simp) ?_   -- t56 := call F26(t51, t55) : 22,45
    refine QL.val (fun wq hq => Y.lss rfl rfl) (by decide) ?_   -- t57 := binOp lss 3 t56 c(0:i64) 3
    refine QL.nil fun w5 hx5 => ?_
    have hz5 := hx5.size
    have hE := hE.thenExt hx5
    refine hK26 _ _ ?_; try clear hK26 K26
    first | refine CW.condD rfl (fun ht27 => ?_) (fun ht27 => ?_) | refine CW.condND rfl (fun ht27 => ?_) (fun ht27 => ?_) | refine CW.condN rfl (fun ht27 => ?_) (fun ht27 => ?_) | refine CW.cond rfl (fun ht27 => ?_) (fun ht27 => ?_)
    · -- then
      refine CW.seq fun K28 hK28 => ?_
      refine CW.region ?_   -- region 15
      refine WL.val (Y.assign rfl) (by decide) ?_   -- t4 := assign c(5:i64)
      refine WL.nil ?_
      refine hK28 _ _ ?_; try clear hK28 K28
      refine CW.ret ⟨_, rfl, ?_⟩
      have h9 : findI (idsL (ndsL (l.take k))) p < 0 := by assumption
      rw [htk] at h9
      exact ⟨by rw [wrongE, if_neg (by show ¬ 8 < ps.length; omega), if_neg (by show ¬ risB ps = false; rw [hrisT]; decide), if_neg hnid, if_pos ⟨p, List.mem_of_getElem? hp, findI_neg.1 h9⟩], hE⟩
    -- else
    refine CW.skip ?_
    refine hK25 _ _ ?_; try clear hK25 K25
    refine CW.region ?_   -- region 13
    refine WL.val (Y.move rfl) (by decide) ?_   -- t47 := move t7
    refine WL.val (Y.add rfl rfl ⟨by omega, by omega⟩) (by decide) ?_   -- t48 := binOp add 3 t47 c(1:i64) 3
    refine WL.val (Y.assign rfl) (by decide) ?_   -- t7 := assign t48
    refine WL.nil ?_
    refine ⟨x + 1, by show ps.length - (x + 1) < ps.length - x; omega, (by repeat (first | exact Fr.le.nil | refine Fr.le.cons rfl ?_)), by show x + 1 ≤ ps.length; omega, ?_, hE⟩
    intro i a2 hi h1
    by_cases e : i < x
    · exact hin i a2 e h1
    · have e2 : i = x := by omega
      subst e2
      rw [hp] at h1; cases h1
      have h9 : ¬ findI (idsL (ndsL (l.take k))) p < 0 := by assumption
      rw [htk] at h9
      exact Decidable.not_not.1 fun h => h9 (findI_neg.2 h)
  -- else
  refine CW.exit ?_   -- exit 2
  refine hK20 _ _ ?_; try clear hK20 K20
  refine CW.seq fun K29 hK29 => ?_
  refine CW.region ?_   -- region 16
  refine WL.val (Y.assign rfl) (by decide) ?_   -- t4 := assign c(0:i64)
  refine WL.nil ?_
  refine hK29 _ _ ?_; try clear hK29 K29
  refine CW.ret ⟨_, rfl, ?_⟩
  exact ⟨by rw [wrongE, if_neg (by show ¬ 8 < ps.length; omega), if_neg (by show ¬ risB ps = false; rw [hrisT]; decide), if_neg hnid, if_neg (by
    rintro ⟨p, hp, hn⟩
    obtain ⟨i, hi⟩ := List.mem_iff_getElem?.1 hp
    have hi : ps[i]? = some p := hi
    exact hn (hin i p (by have := (List.getElem?_eq_some_iff.1 hi).1; omega) hi))], hE⟩
theorem rCheck_any (u : Value) (l : List NdV) (w : World) (hl : Nds w u l) : Calls Try.prog 21 #[u] w (Ret fun v w' => v = .tuple #[.int .i64 ((readE (ndsL l)).1 : Int), .int .i64 (readE (ndsL l)).2] ∧ Ext w w') := by
  have hl0 := hl
  obtain ⟨⟨A, m, c, rfl, hlm, hmc, hcm, hlx⟩, hps⟩ := hl
  unfold maxLen at hcm
  have hln : (ndsL l).length = m := by simpa using hlm
  refine calls_of_CW 22 [2, 3] [(0, .slice A m c)] Try.func21 rfl rfl rfl (by simp) args1 ?_
  have hE : Ext w w := Chg.refl
  refine CW.seq fun K1 hK1 => ?_
  refine CW.region ?_   -- region 0
  refine WL.val (Y.assign rfl) (by decide) ?_   -- t2 := assign c(0:i64)
  refine WL.val (Y.assign rfl) (by decide) ?_   -- t3 := assign c(0:i64)
  refine WL.nil ?_
  refine hK1 _ _ ?_; try clear hK1 K1
  refine CW.seq fun K2 hK2 => ?_
  refine CW.seq fun K3 hK3 => ?_
  refine CW.region ?_   -- region 1
  refine WL.val (Y.move rfl) (by decide) ?_   -- t6 := move t0
  refine WL.val (Y.len_slice Try.underlying22 rfl) (by decide) ?_   -- t7 := call len(t6) : 22
  refine WL.val (Y.gtr rfl rfl) (by decide) ?_   -- t8 := binOp gtr 3 t7 c(200:i64) 3
  refine WL.nil ?_
  refine hK3 _ _ ?_; try clear hK3 K3
  first | refine CW.condD rfl (fun ht4 => ?_) (fun ht4 => ?_) | refine CW.condND rfl (fun ht4 => ?_) (fun ht4 => ?_) | refine CW.condN rfl (fun ht4 => ?_) (fun ht4 => ?_) | refine CW.cond rfl (fun ht4 => ?_) (fun ht4 => ?_)
  · -- then
    refine CW.seq fun K5 hK5 => ?_
    refine CW.region ?_   -- region 2
    refine WL.val (Y.assign rfl) (by decide) ?_   -- t2 := assign c(0:i64)
    refine WL.val (Y.assign rfl) (by decide) ?_   -- t3 := assign c(4:i64)
    refine WL.nil ?_
    refine hK5 _ _ ?_; try clear hK5 K5
    refine CW.ret ⟨_, rfl, ?_⟩
    have he : readE (ndsL l) = (0, 4) := by rw [readE, if_pos (by omega)]
    exact ⟨by rw [he]; rfl, hE⟩
  -- else
  refine CW.skip ?_
  refine hK2 _ _ ?_; try clear hK2 K2
  refine CW.seq fun K6 hK6 => ?_
  refine CW.seq fun K7 hK7 => ?_
  refine CW.region ?_   -- region 3
  refine WL.val (Y.assign rfl) (by decide) ?_   -- t4 := assign c(0:i64)
  refine WL.nil ?_
  refine hK7 _ _ ?_; try clear hK7 K7
  refine CW.block ?_   -- block 0
  refine CW.loop (X := Nat) (fun x => [(0, .slice A m c), (4, .int .i64 (x : Int))]) (fun x w0 => x ≤ m ∧ fwrong (ndsL l) [] 0 = fwrong ((ndsL l).drop x) (idsL ((ndsL l).take x)) x ∧ Ext w w0) (fun x => m - x) 0 (by repeat (first | exact Fr.le.nil | refine Fr.le.cons rfl ?_)) ⟨Nat.zero_le _, by simp, hE⟩ ?_
  intro x w1 hl1
  have hre : readE (ndsL l) = fwrong (ndsL l) [] 0 := by rw [readE, if_neg (by omega)]
  obtain ⟨hxm, hfw, hE⟩ := hl1
  refine CW.seq fun K8 hK8 => ?_
  refine CW.seq fun K9 hK9 => ?_
  refine CW.region ?_   -- region 4
  refine WL.val (Y.move rfl) (by decide) ?_   -- t9 := move t4
  refine WL.val (Y.move rfl) (by decide) ?_   -- t10 := move t0
  refine WL.val (Y.len_slice Try.underlying22 rfl) (by decide) ?_   -- t11 := call len(t10) : 22
  refine WL.val (Y.lss rfl rfl) (by decide) ?_   -- t12 := binOp lss 3 t9 t11 3
  refine WL.nil ?_
  refine hK9 _ _ ?_; try clear hK9 K9
  first | refine CW.condD rfl (fun ht10 => ?_) (fun ht10 => ?_) | refine CW.condND rfl (fun ht10 => ?_) (fun ht10 => ?_) | refine CW.condN rfl (fun ht10 => ?_) (fun ht10 => ?_) | refine CW.cond rfl (fun ht10 => ?_) (fun ht10 => ?_)
  · -- then
    refine CW.skip ?_
    refine hK8 _ _ ?_; try clear hK8 K8
    refine CW.seq fun K11 hK11 => ?_
    refine CW.block ?_   -- block 1
    refine CW.seq fun K12 hK12 => ?_
    refine CW.region ?_   -- region 6
    obtain ⟨y, hy⟩ : ∃ y, l[x]? = some y := ⟨_, List.getElem?_eq_getElem (by omega)⟩
    have hyn : (ndsL l)[x]? = some y.n := by simp [hy]
    refine WL.val (Y.move rfl) (by decide) ?_   -- t15
    refine WL.val (Y.move rfl) (by decide) ?_   -- t16 := move t4
    refine WL.call Try.func40 rfl rfl rfl (rwrong7_any _ l x y _ (hl0.ext hE) hy) (by simp) ?_; rintro v w2 ⟨rfl, hx2⟩; have hz2 := hx2.size; have hE := hE.thenExt hx2   -- t17 := call F40(t15, t16) : 22,3
    refine WL.val (Y.assign rfl) (by decide) ?_   -- t5 := assign t17
    refine WL.nil ?_
    refine hK12 _ _ ?_; try clear hK12 K12
    refine CW.seq fun K13 hK13 => ?_
    refine CW.region ?_   -- region 7
    refine WL.val (Y.move rfl) (by decide) ?_   -- t18 := move t5
    refine WL.val (Y.neq rfl rfl) (by decide) ?_   -- t19 := binOp neq 3 t18 c(0:i64) 3
    refine WL.nil ?_
    refine hK13 _ _ ?_; try clear hK13 K13
    first | refine CW.condD rfl (fun ht14 => ?_) (fun ht14 => ?_) | refine CW.condND rfl (fun ht14 => ?_) (fun ht14 => ?_) | refine CW.condN rfl (fun ht14 => ?_) (fun ht14 => ?_) | refine CW.cond rfl (fun ht14 => ?_) (fun ht14 => ?_)
    · -- then
      refine CW.seq fun K15 hK15 => ?_
      refine CW.region ?_   -- region 8
      refine WL.val (Y.move rfl) (by decide) ?_   -- t20 := move t4
      refine WL.val (Y.move rfl) (by decide) ?_   -- t21 := move t5
      refine WL.val (Y.assign rfl) (by decide) ?_   -- t2 := assign t20
      refine WL.val (Y.assign rfl) (by decide) ?_   -- t3 := assign t21
      refine WL.nil ?_
      refine hK15 _ _ ?_; try clear hK15 K15
      refine CW.ret ⟨_, rfl, ?_⟩
      exact ⟨by rw [hre, hfw, fwrong_stop hyn (by assumption)], hE⟩
    -- else
    refine CW.skip ?_
    refine hK11 _ _ ?_; try clear hK11 K11
    refine CW.region ?_   -- region 5
    refine WL.val (Y.move rfl) (by decide) ?_   -- t13 := move t4
    refine WL.val (Y.add rfl rfl ⟨by omega, by omega⟩) (by decide) ?_   -- t14 := binOp add 3 t13 c(1:i64) 3
    refine WL.val (Y.assign rfl) (by decide) ?_   -- t4 := assign t14
    refine WL.nil ?_
    refine ⟨x + 1, by show m - (x + 1) < m - x; omega, (by repeat (first | exact Fr.le.nil | refine Fr.le.cons rfl ?_)), by show x + 1 ≤ m; omega, hfw.trans (fwrong_step hyn (Decidable.not_not.1 (by assumption))), hE⟩
  -- else
  refine CW.exit ?_   -- exit 0
  refine hK6 _ _ ?_; try clear hK6 K6
  refine CW.seq fun K16 hK16 => ?_
  refine CW.region ?_   -- region 9
  refine WL.val (Y.assign rfl) (by decide) ?_   -- t2 := assign c(0:i64)
  refine WL.val (Y.assign rfl) (by decide) ?_   -- t3 := assign c(0:i64)
  refine WL.nil ?_
  refine hK16 _ _ ?_; try clear hK16 K16
  refine CW.ret ⟨_, rfl, ?_⟩
  have e1 : (ndsL l).drop x = [] := List.drop_of_length_le (by omega)
  exact ⟨by rw [hre, hfw, e1]; rfl, hE⟩
theorem rWrong_any (u v0 : Value) (l : List NdV) (ids : List Dig) (w : World) (hl : Nds w u l) (hd : Sl w digC 32 v0 ids) : Calls Try.prog 15 #[u, v0] w (Ret fun v w' => v = .int .i64 (wrongQ (ndsL l) ids) ∧ Ext w w') := by
  have hl0 := hl
  obtain ⟨⟨A, m, c, rfl, hlm, hmc, hcm, hlx⟩, hps⟩ := hl
  unfold maxLen at hcm
  have hd0 := hd
  obtain ⟨A1, m1, c1, rfl, hdm, hdc, hdx, hdg⟩ := hd
  unfold maxLen at hdx
  refine calls_of_CW 29 [4] [(0, .slice A m c), (1, .slice A1 m1 c1)] Try.func15 rfl rfl rfl (by simp) args2 ?_
  have hE : Ext w w := Chg.refl
  refine CW.seq fun K1 hK1 => ?_
  refine CW.region ?_   -- region 0
  refine WL.val (Y.assign rfl) (by decide) ?_   -- t4 := assign c(0:i64)
  refine WL.nil ?_
  refine hK1 _ _ ?_; try clear hK1 K1
  refine CW.seq fun K2 hK2 => ?_
  refine CW.region ?_   -- region 1
  refine WL.val (Y.move rfl) (by decide) ?_   -- t9 := move t0
  refine WL.call Try.func21 rfl rfl rfl (rCheck_any _ l _ hl0) (by simp) ?_; rintro v w1 ⟨rfl, hx1⟩; have hz1 := hx1.size; have hE := hE.thenExt hx1   -- t10 := call F21(t9) : 22
  refine WL.val (Y.move rfl) (by decide) ?_   -- t8 := move t10
  refine WL.val (Y.extract rfl rfl) (by decide) ?_   -- t11 := extract t8 0
  refine WL.val (Y.extract rfl rfl) (by decide) ?_   -- t12 := extract t8 1
  refine WL.val (Y.assign rfl) (by decide) ?_   -- t5 := assign t11
  refine WL.val (Y.assign rfl) (by decide) ?_   -- t6 := assign t12
  refine WL.nil ?_
  refine hK2 _ _ ?_; try clear hK2 K2
  refine CW.seq fun K3 hK3 => ?_
  refine CW.seq fun K4 hK4 => ?_
  refine CW.region ?_   -- region 2
  refine WL.val (Y.move rfl) (by decide) ?_   -- t13 := move t6
  refine WL.val (Y.neq rfl rfl) (by decide) ?_   -- t14 := binOp neq 3 t13 c(0:i64) 3
  refine WL.nil ?_
  refine hK4 _ _ ?_; try clear hK4 K4
  first | refine CW.condD rfl (fun ht5 => ?_) (fun ht5 => ?_) | refine CW.condND rfl (fun ht5 => ?_) (fun ht5 => ?_) | refine CW.condN rfl (fun ht5 => ?_) (fun ht5 => ?_) | refine CW.cond rfl (fun ht5 => ?_) (fun ht5 => ?_)
  · -- then
    refine CW.seq fun K6 hK6 => ?_
    refine CW.region ?_   -- region 3
    refine WL.val (Y.move rfl) (by decide) ?_   -- t15 := move t6
    refine WL.val (Y.assign rfl) (by decide) ?_   -- t4 := assign t15
    refine WL.nil ?_
    refine hK6 _ _ ?_; try clear hK6 K6
    refine CW.ret ⟨_, rfl, ?_⟩
    exact ⟨by rw [wrongQ, if_pos (by assumption)]; rfl, hE⟩
  -- else
  refine CW.skip ?_
  refine hK3 _ _ ?_; try clear hK3 K3
  refine CW.seq fun K7 hK7 => ?_
  refine CW.seq fun K8 hK8 => ?_
  refine CW.region ?_   -- region 4
  refine WL.val (Y.assign rfl) (by decide) ?_   -- t7 := assign c(0:i64)
  refine WL.nil ?_
  refine hK8 _ _ ?_; try clear hK8 K8
  refine CW.block ?_   -- block 0
  refine CW.loop (X := Nat) (fun x => [(0, .slice A m c), (1, .slice A1 m1 c1), (7, .int .i64 (x : Int))]) (fun x w0 => x ≤ m1 ∧ (∀ i d, i < x → ids[i]? = some d → d ∈ idsL (ndsL l)) ∧ Ext w w0) (fun x => m1 - x) 0 (by repeat (first | exact Fr.le.nil | refine Fr.le.cons rfl ?_)) ⟨Nat.zero_le _, (fun i a h => by omega), hE⟩ ?_
  intro x w2 hl2
  obtain ⟨hxl, hin, hE⟩ := hl2
  refine CW.seq fun K9 hK9 => ?_
  refine CW.seq fun K10 hK10 => ?_
  refine CW.region ?_   -- region 5
  refine WL.val (Y.move rfl) (by decide) ?_   -- t16 := move t7
  refine WL.val (Y.move rfl) (by decide) ?_   -- t17 := move t1
  refine WL.val (Y.len_slice Try.underlying23 rfl) (by decide) ?_   -- t18 := call len(t17) : 23
  refine WL.val (Y.lss rfl rfl) (by decide) ?_   -- t19 := binOp lss 3 t16 t18 3
  refine WL.nil ?_
  refine hK10 _ _ ?_; try clear hK10 K10
  first | refine CW.condD rfl (fun ht11 => ?_) (fun ht11 => ?_) | refine CW.condND rfl (fun ht11 => ?_) (fun ht11 => ?_) | refine CW.condN rfl (fun ht11 => ?_) (fun ht11 => ?_) | refine CW.cond rfl (fun ht11 => ?_) (fun ht11 => ?_)
  · -- then
    refine CW.skip ?_
    refine hK9 _ _ ?_; try clear hK9 K9
    refine CW.seq fun K12 hK12 => ?_
    refine CW.block ?_   -- block 1
    refine CW.seq fun K13 hK13 => ?_
    refine CW.region ?_   -- region 7
    obtain ⟨d, hd⟩ : ∃ d, ids[x]? = some d := ⟨_, List.getElem?_eq_getElem (by omega)⟩
    obtain ⟨a, rfl, hma⟩ := hdg _ _ hd
    refine WL.val (Y.move rfl) (by decide) ?_   -- t22
    refine WL.val (Y.move rfl) (by decide) ?_   -- t23 := move t1
    refine WL.val (Y.move rfl) (by decide) ?_   -- t24 := move t7
    refine WL.val (Y.indexAddrN Try.underlying23 rfl rfl sz0_apiDigest (by omega)) (by decide) ?_   -- t25 := indexAddr 23 t23 t24
    refine WL.val (Y.load Try.underlying45 rfl (hma.ext hE) (sz_apiDigest _) rfl) (by decide) ?_   -- t26 := load 45 t25
    refine WL.call Try.func26 rfl rfl rfl (rFind_any _ l d _ (hl0.ext hE)) (by simp) ?_; rintro v w3 ⟨rfl, hx3⟩; have hz3 := hx3.size; have hE := hE.thenExt hx3   -- t27 := call F26(t22, t26) : 22,45
    refine WL.val (Y.lss rfl rfl) (by decide) ?_   -- t28 := binOp lss 3 t27 c(0:i64) 3
    refine WL.nil ?_
    refine hK13 _ _ ?_; try clear hK13 K13
    first | refine CW.condD rfl (fun ht14 => ?_) (fun ht14 => ?_) | refine CW.condND rfl (fun ht14 => ?_) (fun ht14 => ?_) | refine CW.condN rfl (fun ht14 => ?_) (fun ht14 => ?_) | refine CW.cond rfl (fun ht14 => ?_) (fun ht14 => ?_)
    · -- then
      refine CW.seq fun K15 hK15 => ?_
      refine CW.region ?_   -- region 8
      refine WL.val (Y.assign rfl) (by decide) ?_   -- t4 := assign c(5:i64)
      refine WL.nil ?_
      refine hK15 _ _ ?_; try clear hK15 K15
      refine CW.ret ⟨_, rfl, ?_⟩
      exact ⟨by rw [wrongQ, if_neg (by assumption), if_pos ⟨d, List.mem_of_getElem? hd, findI_neg.1 (by assumption)⟩], hE⟩
    -- else
    refine CW.skip ?_
    refine hK12 _ _ ?_; try clear hK12 K12
    refine CW.region ?_   -- region 6
    refine WL.val (Y.move rfl) (by decide) ?_   -- t20 := move t7
    refine WL.val (Y.add rfl rfl ⟨by omega, by omega⟩) (by decide) ?_   -- t21 := binOp add 3 t20 c(1:i64) 3
    refine WL.val (Y.assign rfl) (by decide) ?_   -- t7 := assign t21
    refine WL.nil ?_
    refine ⟨x + 1, by show m1 - (x + 1) < m1 - x; omega, (by repeat (first | exact Fr.le.nil | refine Fr.le.cons rfl ?_)), by show x + 1 ≤ m1; omega, ?_, hE⟩
    intro i a2 hi h1
    by_cases e : i < x
    · exact hin i a2 e h1
    · have e2 : i = x := by omega
      subst e2
      rw [hd] at h1; cases h1
      have h9 : ¬ findI (idsL (ndsL l)) d < 0 := by assumption
      exact Decidable.not_not.1 fun h => h9 (findI_neg.2 h)
  -- else
  refine CW.exit ?_   -- exit 0
  refine hK7 _ _ ?_; try clear hK7 K7
  refine CW.seq fun K16 hK16 => ?_
  refine CW.region ?_   -- region 9
  refine WL.val (Y.assign rfl) (by decide) ?_   -- t4 := assign c(0:i64)
  refine WL.nil ?_
  refine hK16 _ _ ?_; try clear hK16 K16
  refine CW.ret ⟨_, rfl, ?_⟩
  exact ⟨by rw [wrongQ, if_neg (by assumption), if_neg (by
    rintro ⟨d, hd, hn⟩
    obtain ⟨i, hi⟩ := List.mem_iff_getElem?.1 hd
    exact hn (hin i d (by have := (List.getElem?_eq_some_iff.1 hi).1; omega) hi))], hE⟩
end Go.Proofs.Ytecolkngbcgmcaa
