/- FugueKeeps, walked. No condition. -/
import Derived.Test.YtffkmlkdlhkkmaaEb
import Derived.Test.YtffkmlkdlhkkmaaQc
set_option linter.unusedSimpArgs false
set_option linter.unusedVariables false
namespace Go.Fw
theorem Y.max2 {P : Program} {n : NN} {fr : Fr} {w : World} {ty : TypeId} {x y : Operand} {k k' : IntKind} {p q : Int} {ts : Array TypeId} (hx : ev fr x = some (.int k p)) (hy : ev fr y = some (.int k' q)) : Yw P n fr (.call { callee := .builtin .max, args := #[x, y], argTypes := ts }) ty w (.int k (if q > p then q else p)) w := fun b o' ho _ ha => by
  simp [execOp, ho, resolve, invoke, builtin, ha.ev hx, ha.ev hy, run_max_int2]
end Go.Fw
namespace Go.Proofs.Ytffkmlkdlhkkmaa
open Go.RowKit Go.Fw Go.Fu Go.Pl
theorem inI_nm {e : List El} (hG : Fu.Good e) {q : Nat} (hq : q < e.length) {l : List Nat} (hl : ∀ p ∈ l, p < e.length) : inI (l.map (nm e)) (nm e q) = if q ∈ l then (l.idxOf q : Int) else -1 := by
  have hinj : ∀ p, p < e.length → nm e p = nm e q → p = q := fun p hp h => by
    obtain ⟨x, hx⟩ : ∃ x, e[p]? = some x := ⟨_, List.getElem?_eq_getElem hp⟩
    obtain ⟨y, hy⟩ : ∃ x, e[q]? = some x := ⟨_, List.getElem?_eq_getElem hq⟩
    rw [nm_at hx, nm_at hy] at h
    exact hG.inj hx hy h
  by_cases hm : q ∈ l
  · rw [if_pos hm]
    have hil : l.idxOf q < l.length := List.idxOf_lt_length_of_mem hm
    refine inI_some (x := nm e q) (by rw [List.getElem?_map, List.getElem?_eq_getElem hil, List.getElem_idxOf]; rfl) rfl fun t p ht hp h => ?_
    rw [List.getElem?_map] at hp
    obtain ⟨p', hp', rfl⟩ := Option.map_eq_some_iff.1 hp
    have e1 := hinj p' (hl p' (List.mem_of_getElem? hp')) h
    subst e1
    obtain ⟨htl, e2⟩ := List.getElem?_eq_some_iff.1 hp'
    have h9 := List.not_of_lt_findIdx (p := (· == p')) (show t < l.findIdx (· == p') from ht)
    simp [e2] at h9
  · rw [if_neg hm]
    refine inI_none fun t p ht hp h => ?_
    rw [List.getElem?_map] at hp
    obtain ⟨p', hp', rfl⟩ := Option.map_eq_some_iff.1 hp
    have e1 := hinj p' (hl p' (List.mem_of_getElem? hp')) h
    subst e1
    exact hm (List.mem_of_getElem? hp')
/-- Does one of them take it away? -/
def goneB (l : List OpD) (r : RefD) : Bool := l.any fun o => decide (o.kind = 2) && decide (o.at_ = r)
theorem goneB_succ {l : List OpD} {r : RefD} {y : Nat} {o : OpD} (h : l[y]? = some o) : goneB (l.take (y + 1)) r = (goneB (l.take y) r || (decide (o.kind = 2) && decide (o.at_ = r))) := by
  rw [goneB, Go.Pl.take_succ h, List.any_append]; simp [goneB]
theorem goneB_iff {l : List OpD} {r : RefD} : goneB l r = true ↔ ∃ o ∈ l, o.kind = 2 ∧ o.at_ = r := by simp [goneB]
/-- The last place so far. -/
def LastI (s s' : List Nat) (n : Nat) (v : Int) : Prop := v = -1 ∨ ∃ t p, t < n ∧ s[t]? = some p ∧ p ∈ s' ∧ v = (s'.idxOf p : Int)

set_option maxRecDepth 100000 in
set_option maxHeartbeats 4000000 in
theorem keeps_any (u : Value) (l : List CmV) (x : CmV) (w : World) (hl : Cms w u l) (hx : Sl w opC 37 x.pv x.ops) : Calls Try.prog 5 #[u, .agg (cmC x).toArray] w (Ret fun v w' => v = .bool true ∧ Ext w w') := by
  obtain ⟨A, m, c, rfl, hm, hmc, hcm, _⟩ := _root_.id hl.sl
  unfold maxLen at hcm
  obtain ⟨cid, cops, cA, cc⟩ := x
  have hxo : cops ≠ [] → ∀ q, (Value.slice cA cops.length cc).ownBlock = some q → q < w.heap.size := fun h0 => hx.own_lt opC_ne h0
  have hx2 : Sl w opC 37 (.slice cA cops.length cc) cops := hx
  obtain ⟨_, _, _, hxe, _, hxc1, hxc2, _⟩ := _root_.id hx2
  injection hxe with _ hxe1 hxe2
  unfold maxLen at hxc2
  have hcl : cops.length ≤ 9223372036854775807 := by omega
  refine calls_of_CW 117 [4] [(0, .slice A m c), (1, .agg (cmC ⟨cid, cops, cA, cc⟩).toArray)] Try.func5 rfl rfl rfl (by simp) args2 ?_
  have hE : Ext w w := Chg.refl
  refine CW.seq fun K1 hK1 => ?_
  refine CW.region ?_   -- region 0
  refine WL.box rfl rfl (by decide) fun g3 w1 hx1 hg3 hB3 => ?_   -- t3 := box 42 t1
  have hlt3 := hB3.lt; have hz1 := hx1.size
  have hM3 := hB3.mem; have hz1 := hx1.size; have hE := hE.thenExt hx1
  refine WL.val (Y.assign rfl) (by decide) ?_   -- t4 := assign c(false)
  refine WL.nil ?_
  refine hK1 _ _ ?_; try clear hK1 K1
  refine CW.seq fun K2 hK2 => ?_
  refine CW.region ?_   -- region 1
  refine WL.val (Y.move rfl) (by decide) ?_   -- t22 := move t0
  refine WL.call Try.func11 rfl rfl rfl (grown_any _ l _ (hl.ext hE)) (by simp) ?_; rintro v23 w2 hR2   -- t23 := call F11(t22) : 22
  obtain ⟨g, rb, ra, ns, gr, rs, av, ev_, L, T, rfl, hA⟩ := hR2
  have hz2 := hA.ext.size
  have hE := hE.thenExt hA.ext
  have hB3 := hB3.ext hA.ext
  have hT2 := hA.ft
  have hfe := hA.fe
  have hok := hA.ok
  have hG : Fu.Good (Fw.els ns) := by rw [hfe]; exact hok.good
  have hel : (Fw.els ns).length = ns.length := List.length_map _
  have hn5 : ns.length ≤ 400001 := by rw [← hel, hfe]; exact hok.few
  have hFl : ∀ q, Fp g rb ra ns q → w1.heap.size ≤ q ∧ q < w2.heap.size := fun q hq => ⟨hA.fnew q hq, hT2.lt hq⟩
  refine WL.val (Y.move rfl) (by decide) ?_   -- t21 := move t23
  refine WL.val (Y.extract rfl rfl) (by decide) ?_   -- t24 := extract t21 0
  refine WL.val (Y.extract rfl rfl) (by decide) ?_   -- t25 := extract t21 1
  refine WL.val (Y.extract rfl rfl) (by decide) ?_   -- t26 := extract t21 2
  refine WL.val (Y.assign rfl) (by decide) ?_   -- t5 := assign t24
  refine WL.val (Y.assign rfl) (by decide) ?_   -- t6 := assign t25
  refine WL.val (Y.assign rfl) (by decide) ?_   -- t7 := assign t26
  refine WL.nil ?_
  refine hK2 _ _ ?_; try clear hK2 K2
  refine CW.seq fun K3 hK3 => ?_
  refine CW.seq_testE 32 (False) ?_ ?_
  · refine CW.region ?_
    refine WL.val (Y.move rfl) (by decide) ?_   -- t27 := move t7
    refine WL.val (Y.not rfl) (by decide) ?_   -- t28 := unOp not 4 t27
    refine WL.val (Y.move rfl) (by decide) ?_   -- t29 := move t28
    first | refine WL.casesD (d := 29) rfl (fun hg29 => ?_) (fun hg29 => ?_) | refine WL.casesND (d := 29) rfl (fun hg29 => ?_) (fun hg29 => ?_) | refine WL.cases (d := 29) rfl (fun hg29 => ?_) (fun hg29 => ?_)
    · -- t29 = T
      refine WL.goff rfl rfl (by decide) ?_   -- t30 := call F12() :  [if 2=false]
      refine WL.goff rfl rfl (by decide) ?_   -- t31 := unOp not 4 t30 [if 2=false]
      refine WL.val (Y.pick rfl rfl) (by decide) ?_   -- t32 := pick t29 c(true) t31
      refine WL.nil ⟨⟨_, rfl, ?_⟩, Chg.refl, (by repeat (first | exact Fr.le.refl | refine Fr.le.push rfl ?_))⟩
      first | (simp only [*, Int.natCast_inj, Bool.not_eq_true', decide_eq_false_iff_not, decide_eq_true_eq, not_true_eq_false, not_false_eq_true, true_and, false_and, and_true, and_false, false_or, or_false, true_or, or_true, iff_true, true_iff, iff_false, false_iff]; done) | (simp_all; done) | (refine congrArg Value.bool (Bool.eq_iff_iff.2 ?_); simp_all; done) | (simp_all; omega)
    · -- t29 = F
      refine WL.gcall rfl rfl Try.func12 rfl rfl rfl (alive_any _) (by decide) ?_; rintro v w3 ⟨rfl, hx3⟩; have hz3 := hx3.size; have hE := hE.thenExt hx3; have hB3 := hB3.ext hx3   -- t30 := call F12() :  [if 2=false]
      refine WL.gval rfl rfl (Y.not rfl) (by decide) ?_   -- t31 := unOp not 4 t30 [if 2=false]
      refine WL.val (Y.pick rfl rfl) (by decide) ?_   -- t32 := pick t29 c(true) t31
      refine WL.nil ⟨⟨_, rfl, ?_⟩, hx3, (by repeat (first | exact Fr.le.refl | refine Fr.le.push rfl ?_))⟩
      first | (simp only [*, Int.natCast_inj, Bool.not_eq_true', decide_eq_false_iff_not, decide_eq_true_eq, not_true_eq_false, not_false_eq_true, true_and, false_and, and_true, and_false, false_or, or_false, true_or, or_true, iff_true, true_iff, iff_false, false_iff]; done) | (simp_all; done) | (refine congrArg Value.bool (Bool.eq_iff_iff.2 ?_); simp_all; done) | (simp_all; omega)
  intro w4 hx4; have hz4 := hx4.size; have hE := hE.thenExt hx4; have hB3 := hB3.ext hx4
  first | refine CW.condD rfl (fun ht4 => ?_) (fun ht4 => ?_) | refine CW.condND rfl (fun ht4 => ?_) (fun ht4 => ?_) | refine CW.condN rfl (fun ht4 => ?_) (fun ht4 => ?_) | refine CW.cond rfl (fun ht4 => ?_) (fun ht4 => ?_)
  · -- then
    refine CW.seq fun K5 hK5 => ?_
    refine CW.region ?_   -- region 3
    refine WL.val (Y.assign rfl) (by decide) ?_   -- t4 := assign c(false)
    refine WL.nil ?_
    refine hK5 _ _ ?_; try clear hK5 K5
    refine CW.ret ⟨_, rfl, ?_⟩
    exact False.elim (by assumption)
  -- else
  refine CW.skip ?_
  refine hK3 _ _ ?_; try clear hK3 K3
  refine CW.seq fun K6 hK6 => ?_
  refine CW.region ?_   -- region 4
  refine WL.val (Y.move rfl) (by decide) ?_   -- t34 := move t5
  refine WL.call Try.func21 rfl rfl rfl (walked_any g rb ra T.ad ns _ (hT2.ext hx4) hG hn5) (by simp) ?_; rintro v35 w5 hR5   -- t35 := call F21(t34) : 27
  obtain ⟨lv, rfl, hO5, hf5, hx5⟩ := hR5
  have hz5 := hx5.size
  have hE := hE.thenExt hx5
  have hB3 := hB3.ext hx5
  obtain ⟨bA, bm, bk, rfl⟩ := hO5.lens
  rw [hfe] at hO5
  have hO5' : Own w5 49 34 (.slice bA bm bk) ((((seenE T.e).map (nm T.e)).map refC).flatten) := by rw [List.map_map]; exact hO5
  have hcs5 : Sl w5 opC 37 (.slice cA cops.length cc) cops := hx.ext hE
  refine WL.val (Y.move rfl) (by decide) ?_   -- t33 := move t35
  refine WL.val (Y.extract rfl rfl) (by decide) ?_   -- t36 := extract t33 0
  refine WL.val (Y.extract rfl rfl) (by decide) ?_   -- t37 := extract t33 1
  refine WL.val (Y.assign rfl) (by decide) ?_   -- t8 := assign t36
  refine WL.val (Y.assign rfl) (by decide) ?_   -- t9 := assign t37
  refine WL.nil ?_
  refine hK6 _ _ ?_; try clear hK6 K6
  refine CW.seq fun K7 hK7 => ?_
  refine CW.seq_to (X := Bool × List Nn) (fun y => [(3, .pointer (some ⟨g3, 0, none⟩)), (5, .pointer (some ⟨g, 0, none⟩)), (8, .slice bA bm bk), (49, .bool y.1)]) (fun y w0 => Ext w w0 ∧ (y.1 = false → wrongC T cid cops = 0 ∧ FtAt w0 g rb ra (addT T cid cops).ad y.2 ∧ Fw.els y.2 = (addT T cid cops).e ∧ Blk w0 g3 TCm (cmC ⟨cid, cops, cA, cc⟩) ∧ Sl w0 refC 34 (.slice bA bm bk) ((seenE T.e).map (nm T.e)) ∧ Sl w0 opC 37 (.slice cA cops.length cc) cops)) ?_ ?_
  · refine CW.region ?_
    refine WL.val (Y.move rfl) (by decide) ?_   -- t38 := move t8
    refine WL.val (Y.len_slice Try.underlying57 rfl) (by decide) ?_   -- t39 := call len(t38) : 57
    refine WL.val (Y.gtr rfl rfl) (by decide) ?_   -- t40 := binOp gtr 3 t39 c(2000:i64) 3
    refine WL.val (Y.move rfl) (by decide) ?_   -- t41 := move t40
    first | refine WL.casesD (d := 41) rfl (fun hg41 => ?_) (fun hg41 => ?_) | refine WL.casesND (d := 41) rfl (fun hg41 => ?_) (fun hg41 => ?_) | refine WL.cases (d := 41) rfl (fun hg41 => ?_) (fun hg41 => ?_)
    · -- t41 = T
      refine WL.goff rfl rfl (by decide) ?_   -- t42 := move t5 [if 3=false]
      refine WL.goff rfl rfl (by decide) ?_   -- t43 := fieldAddr 42 t3 0 [if 3=false]
      refine WL.goff rfl rfl (by decide) ?_   -- t44 := load 24 t43 [if 3=false]
      refine WL.goff rfl rfl (by decide) ?_   -- t45 := fieldAddr 42 t3 1 [if 3=false]
      refine WL.goff rfl rfl (by decide) ?_   -- t46 := load 35 t45 [if 3=false]
      refine WL.goff rfl rfl (by decide) ?_   -- t47 := call F17(t42, t44, t46) : 27,24,35 [if 3=false]
      refine WL.goff rfl rfl (by decide) ?_   -- t48 := binOp neq 38 t47 c(0:i64) 38 [if 3=false]
      refine WL.val (Y.pick rfl rfl) (by decide) ?_   -- t49 := pick t41 c(true) t48
      refine WL.nil ?_
      first | (have hT66 := hT6; exact ⟨(decide (wrongC T cid cops ≠ 0), ns2), (by repeat (first | exact Fr.le.nil | refine Fr.le.cons rfl ?_)), hE, fun h => ⟨by simpa using h, hT66, he6, hB3, hS6, hcs6⟩⟩) | exact ⟨(true, ns), (by repeat (first | exact Fr.le.nil | refine Fr.le.cons rfl ?_)), hE, fun h => by cases h⟩
    · -- t41 = F
      refine WL.gval rfl rfl (Y.move rfl) (by decide) ?_   -- t42 := move t5 [if 3=false]
      refine WL.gval rfl rfl (Y.fieldAddr fo_recensionlaw08Commit0 rfl) (by decide) ?_   -- t43 := fieldAddr 42 t3 0 [if 3=false]
      refine WL.gval rfl rfl (Y.load Try.underlying24 rfl hB3.mem.recensionlaw08Commit0 (sz_apiDigest _) rfl) (by decide) ?_   -- t44 := load 24 t43 [if 3=false]
      refine WL.gval rfl rfl (Y.fieldAddr fo_recensionlaw08Commit1 rfl) (by decide) ?_   -- t45 := fieldAddr 42 t3 1 [if 3=false]
      refine WL.gval rfl rfl (Y.load1 Try.underlying35 rfl hB3.mem.recensionlaw08Commit1 rfl) (by decide) ?_   -- t46 := load 35 t45 [if 3=false]
      refine WL.gcall rfl rfl Try.func17 rfl rfl rfl (fadd_any g rb ra T.ad ns cid _ cops L _ ((hT2.ext hx4).ext hx5) (by rw [hfe]; exact hok) hcs5 (fun h0 q hq => ⟨by have := hxo h0 q hq; have := hE.size; omega, fun h => by have := hxo h0 q hq; have := (hFl q h).1; omega⟩)) (by decide) ?_; rintro v47 w6 hR6   -- t47 := call F17(t42, t44, t46) : 27,24,35 [if 3=false]
      obtain ⟨rfl, ns2, hT6, he6, hc6, hf6, _⟩ := hR6
      rw [hfe] at hT6 he6
      have hwe : wrongC ⟨T.ad, Fw.els ns⟩ cid cops = wrongC T cid cops := by rw [hfe]
      rw [hwe]
      have hz6 := hc6.size
      have hcs6 : Sl w6 opC 37 (.slice cA cops.length cc) cops := hcs5.chgN hc6 (fun h0 q hq h => by have := hxo h0 q hq; have := (hFl q h).1; omega)
      have hS6 : Sl w6 refC 34 (.slice bA bm bk) ((seenE T.e).map (nm T.e)) := ((hO5'.chg hc6 (fun q hq h => by have := hf5 q hq; have := (hFl q h).2; omega))).sl refC_length (by decide)
      have hE := hE.step hc6 (fun q hq => by have := (hFl q hq).1; omega)
      have hB3 := hB3.chg hc6 (fun h => by have := (hFl _ h).1; omega)
      refine WL.gval rfl rfl (Y.neq rfl rfl) (by decide) ?_   -- t48 := binOp neq 38 t47 c(0:i64) 38 [if 3=false]
      refine WL.val (Y.pick rfl rfl) (by decide) ?_   -- t49 := pick t41 c(true) t48
      refine WL.nil ?_
      first | (have hT66 := hT6; exact ⟨(decide (wrongC T cid cops ≠ 0), ns2), (by repeat (first | exact Fr.le.nil | refine Fr.le.cons rfl ?_)), hE, fun h => ⟨by simpa using h, hT66, he6, hB3, hS6, hcs6⟩⟩) | exact ⟨(true, ns), (by repeat (first | exact Fr.le.nil | refine Fr.le.cons rfl ?_)), hE, fun h => by cases h⟩
  rintro ⟨y1, y2⟩ w7 ⟨hE, hj7⟩
  have hz7 := hE.size
  dsimp only at hj7 ⊢
  first | refine CW.condD rfl (fun ht8 => ?_) (fun ht8 => ?_) | refine CW.condND rfl (fun ht8 => ?_) (fun ht8 => ?_) | refine CW.condN rfl (fun ht8 => ?_) (fun ht8 => ?_) | refine CW.cond rfl (fun ht8 => ?_) (fun ht8 => ?_)
  · -- then
    refine CW.seq fun K9 hK9 => ?_
    refine CW.region ?_   -- region 6
    refine WL.val (Y.assign rfl) (by decide) ?_   -- t4 := assign c(true)
    refine WL.nil ?_
    refine hK9 _ _ ?_; try clear hK9 K9
    refine CW.ret ⟨_, rfl, ?_⟩
    exact ⟨rfl, hE⟩
  -- else
  refine CW.skip ?_
  refine hK7 _ _ ?_; try clear hK7 K7
  refine CW.seq fun K10 hK10 => ?_
  obtain ⟨hw0, hT7, he7, hB3, hS7, hcs7⟩ := hj7 (by assumption)
  have hK := keeps hok hw0
  obtain ⟨L2, hok2, _⟩ := hok.addT cid cops
  have hG2 := hok2.good
  have hlen : T.e.length ≤ (addT T cid cops).e.length := by
    have h1 := (hok.add hw0).length
    have h2 := hok.length
    rw [List.map_append, List.sum_append] at h1
    omega
  have hel7 : (Fw.els y2).length = y2.length := List.length_map _
  have hn7 : y2.length ≤ 400001 := by rw [← hel7, he7]; exact hok2.few
  have hsbl : ∀ p ∈ (seenE T.e), p < T.e.length := fun p hp => seen_lt hok.good.down hp
  have hsal : ∀ p ∈ (seenE (addT T cid cops).e), p < (addT T cid cops).e.length := fun p hp => seen_lt hG2.down hp
  have hsaL : (seenE (addT T cid cops).e).length ≤ 400001 := by
    have h1 := List.countP_le_length (p := fun x : El => !x.gone) (l := (addT T cid cops).e)
    rw [hG2.seen_length]; exact Nat.le_trans h1 hok2.few
  refine CW.region ?_   -- region 7
  refine WL.val (Y.move rfl) (by decide) ?_   -- t51 := move t5
  refine WL.call Try.func21 rfl rfl rfl (walked_any g rb ra _ y2 _ hT7 (by rw [he7]; exact hG2) hn7) (by simp) ?_; rintro v52 w8 hR8   -- t52 := call F21(t51) : 27
  obtain ⟨lv2, rfl, hO8, hf8, hx8⟩ := hR8
  have hz8 := hx8.size
  have hE := hE.thenExt hx8
  have hB3 := hB3.ext hx8
  obtain ⟨aA, am, ak, rfl⟩ := hO8.lens
  rw [he7] at hO8
  have hSa : Sl w8 refC 34 (.slice aA am ak) ((seenE (addT T cid cops).e).map (nm (addT T cid cops).e)) := (show Own w8 49 34 (.slice aA am ak) ((((seenE (addT T cid cops).e).map (nm (addT T cid cops).e)).map refC).flatten) by rw [List.map_map]; exact hO8).sl refC_length (by decide)
  have hSb := hS7.ext hx8
  have hcs8 := hcs7.ext hx8
  obtain ⟨_, _, _, e1, hbl, hbc, hbx, _⟩ := _root_.id hSb
  injection e1 with _ e2 e3
  obtain ⟨_, _, _, e4, hal, hac, hax, _⟩ := _root_.id hSa
  injection e4 with _ e5 e6
  unfold maxLen at hbx hax
  rw [List.length_map] at hbl hal
  refine WL.val (Y.move rfl) (by decide) ?_   -- t50 := move t52
  refine WL.val (Y.extract rfl rfl) (by decide) ?_   -- t53 := extract t50 0
  refine WL.val (Y.extract rfl rfl) (by decide) ?_   -- t54 := extract t50 1
  refine WL.val (Y.assign rfl) (by decide) ?_   -- t10 := assign t53
  refine WL.val (Y.assign rfl) (by decide) ?_   -- t11 := assign t54
  refine WL.nil ?_
  refine hK10 _ _ ?_; try clear hK10 K10
  refine CW.seq fun K11 hK11 => ?_
  refine CW.region ?_   -- region 8
  refine WL.val (Y.assign rfl) (by decide) ?_   -- t12 := assign c(-1:i64)
  refine WL.nil ?_
  refine hK11 _ _ ?_; try clear hK11 K11
  refine CW.seq fun K12 hK12 => ?_
  refine CW.seq fun K13 hK13 => ?_
  refine CW.region ?_   -- region 9
  refine WL.val (Y.move rfl) (by decide) ?_   -- t55 := move t8
  refine WL.val (Y.len_slice Try.underlying57 rfl) (by decide) ?_   -- t56 := call len(t55) : 57
  refine WL.val (Y.move rfl) (by decide) ?_   -- t57 := move c(0:i64)
  refine WL.nil ?_
  refine hK13 _ _ ?_; try clear hK13 K13
  refine CW.block ?_   -- block 0
  refine CW.loop (X := Nat × Int) (fun x => [(3, .pointer (some ⟨g3, 0, none⟩)), (8, .slice bA bm bk), (10, .slice aA am ak), (12, .int .i64 x.2), (55, .slice bA bm bk), (56, .int .i64 (bm : Int)), (57, .int .i64 (x.1 : Int))]) (fun x w0 => x.1 ≤ bm ∧ LastI (seenE T.e) (seenE (addT T cid cops).e) x.1 x.2 ∧ Ext w8 w0) (fun x => bm - x.1) (0, -1) (by repeat (first | exact Fr.le.nil | refine Fr.le.cons rfl ?_)) ⟨Nat.zero_le _, .inl rfl, Chg.refl⟩ ?_
  intro x w9 hl9
  obtain ⟨k, v0⟩ := x
  dsimp only at hl9 ⊢
  obtain ⟨hxm, hlast, hL⟩ := hl9
  have hE8 := hE
  have hB38 := hB3
  have hE := hE.thenExt hL
  have hB3 := hB3.ext hL
  refine CW.seq fun K14 hK14 => ?_
  refine CW.region ?_   -- region 10
  refine WL.val (Y.lss rfl rfl) (by decide) ?_   -- t58 := binOp lss 3 t57 t56 3
  refine WL.nil ?_
  refine hK14 _ _ ?_; try clear hK14 K14
  refine CW.seq fun K15 hK15 => ?_
  first | refine CW.condD rfl (fun ht16 => ?_) (fun ht16 => ?_) | refine CW.condND rfl (fun ht16 => ?_) (fun ht16 => ?_) | refine CW.condN rfl (fun ht16 => ?_) (fun ht16 => ?_) | refine CW.cond rfl (fun ht16 => ?_) (fun ht16 => ?_)
  · -- then
    refine CW.skip ?_
    refine hK15 _ _ ?_; try clear hK15 K15
    refine CW.seq fun K17 hK17 => ?_
    refine CW.block ?_   -- block 1
    refine CW.seq fun K18 hK18 => ?_
    obtain ⟨q, hq⟩ : ∃ q, (seenE T.e)[k]? = some q := ⟨_, List.getElem?_eq_getElem (by omega)⟩
    have hqm := List.mem_of_getElem? hq
    have hql := hsbl q hqm
    have hBx : ((seenE T.e).map (nm T.e))[k]? = some (nm T.e q) := by rw [List.getElem?_map, hq]; rfl
    obtain ⟨ba, rfl, hma⟩ := hSb.get hBx
    have hin : inI ((seenE (addT T cid cops).e).map (nm (addT T cid cops).e)) (nm T.e q) = if q ∈ (seenE (addT T cid cops).e) then ((seenE (addT T cid cops).e).idxOf q : Int) else -1 := by
      rw [← hK.old q hql]; exact inI_nm hG2 (by omega) hsal
    obtain ⟨kq, hkq⟩ : ∃ kq, kq = inI ((seenE (addT T cid cops).e).map (nm (addT T cid cops).e)) (nm T.e q) := ⟨_, rfl⟩
    rw [← hkq] at hin
    have hk0 : 0 ≤ kq ↔ q ∈ (seenE (addT T cid cops).e) := by
      by_cases h : q ∈ (seenE (addT T cid cops).e)
      · rw [if_pos h] at hin; exact ⟨fun _ => h, fun _ => by omega⟩
      · rw [if_neg h] at hin; exact ⟨fun h2 => by omega, fun h2 => absurd h2 h⟩
    have hkl : 0 ≤ kq → v0 < kq := fun h => by
      have hqa := hk0.1 h
      rw [if_pos hqa] at hin
      rcases hlast with h2 | ⟨t, p, ht, hp, hpa, hv⟩
      · omega
      · obtain ⟨htl, e1⟩ := List.getElem?_eq_some_iff.1 hp
        obtain ⟨hxl, e2⟩ := List.getElem?_eq_some_iff.1 hq
        have := (List.pairwise_iff_getElem.1 hK.order) t k htl hxl ht (by rw [e1]; exact hpa) (by rw [e2]; exact hqa)
        rw [e1, e2] at this
        omega
    have hkb : kq ≤ 400001 := by
      rw [hin]; split
      · have := List.idxOf_lt_length_of_mem (by assumption : q ∈ (seenE (addT T cid cops).e)); omega
      · omega
    have hgq : goneB cops (nm T.e q) = true ↔ ¬ q ∈ (seenE (addT T cid cops).e) := by rw [goneB_iff, hK.gone q hqm, Decidable.not_not]
    refine CW.region ?_   -- region 11
    refine WL.val (Y.indexAddrN Try.underlying57 rfl rfl sz0_apiRef (by omega)) (by decide) ?_   -- t59 := indexAddr 57 t55 t57
    refine WL.val (Y.load Try.underlying49 rfl (hma.ext hL) (sz_apiRef _) rfl) (by decide) ?_   -- t60 := load 49 t59
    refine as_apiRef rfl (by simp) (by decide) fun g14 w10 hx10 hg14 hB14 => ?_   -- alloc 49; store 49 t14 t60
    have hlt14 := hB14.lt; have hz10 := hx10.size
    have hM14 := hB14.mem; have hz10 := hx10.size; have hE := hE.thenExt hx10; have hB3 := hB3.ext hx10
    refine WL.nil ?_
    refine hK18 _ _ ?_; try clear hK18 K18
    refine CW.seq fun K19 hK19 => ?_
    refine CW.region ?_   -- region 12
    refine WL.val (Y.move rfl) (by decide) ?_   -- t61 := move t10
    refine WL.val (Y.load Try.underlying49 rfl hB14.mem (sz_apiRef _) rfl) (by decide) ?_   -- t62 := load 49 t14
    refine WL.call Try.func22 rfl rfl rfl (in_any _ ((seenE (addT T cid cops).e).map (nm (addT T cid cops).e)) (nm T.e q) _ ((hSa.ext hL).ext hx10)) (by simp) ?_; rintro v w11 ⟨rfl, hx11⟩; have hz11 := hx11.size; have hE := hE.thenExt hx11; have hB3 := hB3.ext hx11; have hB14 := hB14.ext hx11   -- t63 := call F22(t61, t62) : 57,49
    rw [← hkq]
    refine WL.val (Y.assign rfl) (by decide) ?_   -- t15 := assign t63
    refine WL.nil ?_
    refine hK19 _ _ ?_; try clear hK19 K19
    refine CW.seq fun K20 hK20 => ?_
    refine CW.seq_test 70 (False) ?_ ?_
    · refine CW.region ?_
      refine WL.val (Y.move rfl) (by decide) ?_   -- t64 := move t15
      refine WL.val (Y.geq rfl rfl) (by decide) ?_   -- t65 := binOp geq 3 t64 c(0:i64) 3
      refine WL.val (Y.move rfl) (by decide) ?_   -- t66 := move t65
      first | refine WL.casesD (d := 66) rfl (fun hg66 => ?_) (fun hg66 => ?_) | refine WL.casesND (d := 66) rfl (fun hg66 => ?_) (fun hg66 => ?_) | refine WL.cases (d := 66) rfl (fun hg66 => ?_) (fun hg66 => ?_)
      · -- t66 = T
        refine WL.gval rfl rfl (Y.move rfl) (by decide) ?_   -- t67 := move t15 [if 2=true]
        refine WL.gval rfl rfl (Y.move rfl) (by decide) ?_   -- t68 := move t12 [if 2=true]
        refine WL.gval rfl rfl (Y.leq rfl rfl) (by decide) ?_   -- t69 := binOp leq 3 t67 t68 3 [if 2=true]
        refine WL.val (Y.pick rfl rfl) (by decide) ?_   -- t70 := pick t66 t69 c(false)
        refine WL.nil ⟨⟨_, rfl, ?_⟩, rfl, (by repeat (first | exact Fr.le.refl | refine Fr.le.push rfl ?_))⟩
        first | (simp only [*, Int.natCast_inj, Bool.not_eq_true', decide_eq_false_iff_not, decide_eq_true_eq, not_true_eq_false, not_false_eq_true, true_and, false_and, and_true, and_false, false_or, or_false, true_or, or_true, iff_true, true_iff, iff_false, false_iff]; done) | (simp_all; done) | (refine congrArg Value.bool (Bool.eq_iff_iff.2 ?_); simp_all; done) | (simp_all; omega)
      · -- t66 = F
        refine WL.goff rfl rfl (by decide) ?_   -- t67 := move t15 [if 2=true]
        refine WL.goff rfl rfl (by decide) ?_   -- t68 := move t12 [if 2=true]
        refine WL.goff rfl rfl (by decide) ?_   -- t69 := binOp leq 3 t67 t68 3 [if 2=true]
        refine WL.val (Y.pick rfl rfl) (by decide) ?_   -- t70 := pick t66 t69 c(false)
        refine WL.nil ⟨⟨_, rfl, ?_⟩, rfl, (by repeat (first | exact Fr.le.refl | refine Fr.le.push rfl ?_))⟩
        first | (simp only [*, Int.natCast_inj, Bool.not_eq_true', decide_eq_false_iff_not, decide_eq_true_eq, not_true_eq_false, not_false_eq_true, true_and, false_and, and_true, and_false, false_or, or_false, true_or, or_true, iff_true, true_iff, iff_false, false_iff]; done) | (simp_all; done) | (refine congrArg Value.bool (Bool.eq_iff_iff.2 ?_); simp_all; done) | (simp_all; omega)
    first | refine CW.condD rfl (fun ht21 => ?_) (fun ht21 => ?_) | refine CW.condND rfl (fun ht21 => ?_) (fun ht21 => ?_) | refine CW.condN rfl (fun ht21 => ?_) (fun ht21 => ?_) | refine CW.cond rfl (fun ht21 => ?_) (fun ht21 => ?_)
    · -- then
      refine CW.seq fun K22 hK22 => ?_
      refine CW.region ?_   -- region 14
      refine WL.val (Y.assign rfl) (by decide) ?_   -- t4 := assign c(false)
      refine WL.nil ?_
      refine hK22 _ _ ?_; try clear hK22 K22
      refine CW.ret ⟨_, rfl, ?_⟩
      exact False.elim (by assumption)
    -- else
    refine CW.skip ?_
    refine hK20 _ _ ?_; try clear hK20 K20
    refine CW.seq fun K23 hK23 => ?_
    refine CW.region ?_   -- region 15
    refine WL.val (Y.assign rfl) (by decide) ?_   -- t16 := assign c(false)
    refine WL.nil ?_
    refine hK23 _ _ ?_; try clear hK23 K23
    refine CW.seq fun K24 hK24 => ?_
    refine CW.seq fun K25 hK25 => ?_
    refine CW.region ?_   -- region 16
    refine WL.val (Y.fieldAddr fo_recensionlaw08Commit1 rfl) (by decide) ?_   -- t71 := fieldAddr 42 t3 1
    refine WL.val (Y.load1 Try.underlying35 rfl hB3.mem.recensionlaw08Commit1 rfl) (by decide) ?_   -- t72 := load 35 t71
    refine WL.val (Y.len_slice Try.underlying35 rfl) (by decide) ?_   -- t73 := call len(t72) : 35
    refine WL.val (Y.move rfl) (by decide) ?_   -- t74 := move c(0:i64)
    refine WL.nil ?_
    refine hK25 _ _ ?_; try clear hK25 K25
    refine CW.block ?_   -- block 2
    refine CW.loop (X := Nat) (fun x => [(3, .pointer (some ⟨g3, 0, none⟩)), (8, .slice (some ba) bm bk), (10, .slice aA am ak), (12, .int .i64 v0), (14, .pointer (some ⟨g14, 0, none⟩)), (15, .int .i64 kq), (16, .bool (goneB (cops.take x) (nm T.e q))), (55, .slice (some ba) bm bk), (56, .int .i64 (bm : Int)), (57, .int .i64 (k : Int)), (72, .slice cA cops.length cc), (73, .int .i64 (cops.length : Int)), (74, .int .i64 (x : Int))]) (fun x w0 => x ≤ cops.length ∧ Ext w11 w0) (fun x => cops.length - x) 0 (by repeat (first | exact Fr.le.nil | refine Fr.le.cons rfl ?_)) ⟨Nat.zero_le _, Chg.refl⟩ ?_
    intro x w12 hl12
    obtain ⟨hym, hL2⟩ := hl12
    have hE := hE.thenExt hL2
    have hB3 := hB3.ext hL2
    have hB14 := hB14.ext hL2
    have hL3 := ((hL.thenExt hx10).thenExt hx11).thenExt hL2
    have hcsb := hcs8
    refine CW.seq fun K26 hK26 => ?_
    refine CW.region ?_   -- region 17
    refine WL.val (Y.lss rfl rfl) (by decide) ?_   -- t75 := binOp lss 3 t74 t73 3
    refine WL.nil ?_
    refine hK26 _ _ ?_; try clear hK26 K26
    refine CW.seq fun K27 hK27 => ?_
    first | refine CW.condD rfl (fun ht28 => ?_) (fun ht28 => ?_) | refine CW.condND rfl (fun ht28 => ?_) (fun ht28 => ?_) | refine CW.condN rfl (fun ht28 => ?_) (fun ht28 => ?_) | refine CW.cond rfl (fun ht28 => ?_) (fun ht28 => ?_)
    · -- then
      refine CW.skip ?_
      refine hK27 _ _ ?_; try clear hK27 K27
      refine CW.seq fun K29 hK29 => ?_
      refine CW.block ?_   -- block 3
      refine CW.seq fun K30 hK30 => ?_
      obtain ⟨o, ho⟩ : ∃ o, cops[x]? = some o := ⟨_, List.getElem?_eq_getElem (by omega)⟩
      obtain ⟨oa, rfl, hmo⟩ := hcsb.get ho
      refine CW.region ?_   -- region 18
      refine WL.val (Y.indexAddrN Try.underlying35 rfl rfl sz0_apiOp (by omega)) (by decide) ?_   -- t76 := indexAddr 35 t72 t74
      refine WL.val (Y.load Try.underlying62 rfl (hmo.ext hL3) (sz_apiOp _) rfl) (by decide) ?_   -- t77 := load 62 t76
      refine as_apiOp rfl (by simp) (by decide) fun g18 w13 hx13 hg18 hB18 => ?_   -- alloc 62; store 62 t18 t77
      have hlt18 := hB18.lt; have hz13 := hx13.size
      have hM18 := hB18.mem; have hz13 := hx13.size; have hE := hE.thenExt hx13; have hB3 := hB3.ext hx13; have hB14 := hB14.ext hx13
      refine WL.nil ?_
      refine hK30 _ _ ?_; try clear hK30 K30
      refine CW.region ?_   -- region 19
      refine WL.val (Y.move rfl) (by decide) ?_   -- t78 := move t16
      refine WL.val (Y.move rfl) (by decide) ?_   -- t79 := move t78
      first | refine WL.casesD (d := 79) rfl (fun hg79 => ?_) (fun hg79 => ?_) | refine WL.casesND (d := 79) rfl (fun hg79 => ?_) (fun hg79 => ?_) | refine WL.cases (d := 79) rfl (fun hg79 => ?_) (fun hg79 => ?_)
      · -- t79 = T
        refine WL.goff rfl rfl (by decide) ?_   -- t80 := fieldAddr 62 t18 0 [if 1=false]
        refine WL.goff rfl rfl (by decide) ?_   -- t81 := load 3 t80 [if 1=false]
        refine WL.goff rfl rfl (by decide) ?_   -- t82 := binOp eql 3 t81 c(2:i64) 3 [if 1=false]
        refine WL.goff rfl rfl (by decide) ?_   -- t83 := move t82 [if 1=false]
        refine WL.goffU rfl rfl (by decide) ?_   -- t84 := fieldAddr 62 t18 2 [if 5=true]
        refine WL.goffU rfl rfl (by decide) ?_   -- t85 := load 49 t84 [if 5=true]
        refine WL.goffU rfl rfl (by decide) ?_   -- t86 := load 49 t14 [if 5=true]
        refine WL.goffU rfl rfl (by decide) ?_   -- t87 := binOp eql 49 t85 t86 49 [if 5=true]
        refine WL.goff rfl rfl (by decide) ?_   -- t88 := pick t83 t87 c(false) [if 1=false]
        refine WL.val (Y.pick rfl rfl) (by decide) ?_   -- t89 := pick t79 c(true) t88
        refine WL.val (Y.assign rfl) (by decide) ?_   -- t16 := assign t89
        refine WL.nil ?_
        refine hK29 _ _ ?_; try clear hK29 K29
        refine CW.region ?_   -- region 20
        refine WL.val (Y.add rfl rfl ⟨by omega, by omega⟩) (by decide) ?_   -- t90 := binOp add 3 t74 c(1:i64) 3
        refine WL.val (Y.move rfl) (by decide) ?_   -- t74 := move t90
        refine WL.nil ?_
        exact ⟨x + 1, (by show cops.length - (x + 1) < cops.length - x; omega), (by rw [goneB_succ ho, show goneB (cops.take x) (nm T.e q) = true by assumption, Bool.true_or]; exact (by repeat (first | exact Fr.le.nil | refine Fr.le.cons rfl ?_))), (by show x + 1 ≤ cops.length; omega), hL2.thenExt hx13⟩
      · -- t79 = F
        refine WL.gval rfl rfl (Y.fieldAddr fo_apiOp0 rfl) (by decide) ?_   -- t80 := fieldAddr 62 t18 0 [if 1=false]
        refine WL.gval rfl rfl (Y.load1 Try.underlying3 rfl hB18.mem.op0 rfl) (by decide) ?_   -- t81 := load 3 t80 [if 1=false]
        refine WL.gval rfl rfl (Y.eql rfl rfl) (by decide) ?_   -- t82 := binOp eql 3 t81 c(2:i64) 3 [if 1=false]
        refine WL.gval rfl rfl (Y.move rfl) (by decide) ?_   -- t83 := move t82 [if 1=false]
        first | refine WL.casesD (d := 83) rfl (fun hg83 => ?_) (fun hg83 => ?_) | refine WL.casesND (d := 83) rfl (fun hg83 => ?_) (fun hg83 => ?_) | refine WL.cases (d := 83) rfl (fun hg83 => ?_) (fun hg83 => ?_)
        · -- t83 = T
          refine WL.gval rfl rfl (Y.fieldAddr fo_apiOp2 rfl) (by decide) ?_   -- t84 := fieldAddr 62 t18 2 [if 5=true]
          refine WL.gval rfl rfl (Y.load Try.underlying49 rfl hB18.mem.op2 (sz_apiRef _) rfl) (by decide) ?_   -- t85 := load 49 t84 [if 5=true]
          refine WL.gval rfl rfl (Y.load Try.underlying49 rfl hB14.mem (sz_apiRef _) rfl) (by decide) ?_   -- t86 := load 49 t14 [if 5=true]
          refine WL.gval rfl rfl (Y.eql_apiRef rfl rfl) (by decide) ?_   -- t87 := binOp eql 49 t85 t86 49 [if 5=true]
          refine WL.gval rfl rfl (Y.pick rfl rfl) (by decide) ?_   -- t88 := pick t83 t87 c(false) [if 1=false]
          refine WL.val (Y.pick rfl rfl) (by decide) ?_   -- t89 := pick t79 c(true) t88
          refine WL.val (Y.assign rfl) (by decide) ?_   -- t16 := assign t89
          refine WL.nil ?_
          refine hK29 _ _ ?_; try clear hK29 K29
          refine CW.region ?_   -- region 20
          refine WL.val (Y.add rfl rfl ⟨by omega, by omega⟩) (by decide) ?_   -- t90 := binOp add 3 t74 c(1:i64) 3
          refine WL.val (Y.move rfl) (by decide) ?_   -- t74 := move t90
          refine WL.nil ?_
          exact ⟨x + 1, (by show cops.length - (x + 1) < cops.length - x; omega), (by rw [goneB_succ ho, show goneB (cops.take x) (nm T.e q) = false by assumption, Bool.false_or, decide_eq_true (by assumption : o.kind = 2), Bool.true_and]; exact (by repeat (first | exact Fr.le.nil | refine Fr.le.cons rfl ?_))), (by show x + 1 ≤ cops.length; omega), hL2.thenExt hx13⟩
        · -- t83 = F
          refine WL.goff rfl rfl (by decide) ?_   -- t84 := fieldAddr 62 t18 2 [if 5=true]
          refine WL.goff rfl rfl (by decide) ?_   -- t85 := load 49 t84 [if 5=true]
          refine WL.goff rfl rfl (by decide) ?_   -- t86 := load 49 t14 [if 5=true]
          refine WL.goff rfl rfl (by decide) ?_   -- t87 := binOp eql 49 t85 t86 49 [if 5=true]
          refine WL.gval rfl rfl (Y.pick rfl rfl) (by decide) ?_   -- t88 := pick t83 t87 c(false) [if 1=false]
          refine WL.val (Y.pick rfl rfl) (by decide) ?_   -- t89 := pick t79 c(true) t88
          refine WL.val (Y.assign rfl) (by decide) ?_   -- t16 := assign t89
          refine WL.nil ?_
          refine hK29 _ _ ?_; try clear hK29 K29
          refine CW.region ?_   -- region 20
          refine WL.val (Y.add rfl rfl ⟨by omega, by omega⟩) (by decide) ?_   -- t90 := binOp add 3 t74 c(1:i64) 3
          refine WL.val (Y.move rfl) (by decide) ?_   -- t74 := move t90
          refine WL.nil ?_
          exact ⟨x + 1, (by show cops.length - (x + 1) < cops.length - x; omega), (by rw [goneB_succ ho, show goneB (cops.take x) (nm T.e q) = false by assumption, Bool.false_or, decide_eq_false (by assumption : ¬ o.kind = 2), Bool.false_and]; exact (by repeat (first | exact Fr.le.nil | refine Fr.le.cons rfl ?_))), (by show x + 1 ≤ cops.length; omega), hL2.thenExt hx13⟩
    -- else
    refine CW.exit ?_   -- exit 2
    refine hK24 _ _ ?_; try clear hK24 K24
    refine CW.seq fun K31 hK31 => ?_
    refine CW.seq fun K32 hK32 => ?_
    refine CW.region ?_   -- region 21
    refine WL.val (Y.move rfl) (by decide) ?_   -- t91 := move t16
    refine WL.val (Y.move rfl) (by decide) ?_   -- t92 := move t15
    refine WL.val (Y.geq rfl rfl) (by decide) ?_   -- t93 := binOp geq 3 t92 c(0:i64) 3
    refine WL.val (Y.eql_bool Try.underlying4 rfl rfl) (by decide) ?_   -- t94 := binOp eql 4 t91 t93 4
    refine WL.nil ?_
    refine hK32 _ _ ?_; try clear hK32 K32
    first | refine CW.condD rfl (fun ht33 => ?_) (fun ht33 => ?_) | refine CW.condND rfl (fun ht33 => ?_) (fun ht33 => ?_) | refine CW.condN rfl (fun ht33 => ?_) (fun ht33 => ?_) | refine CW.cond rfl (fun ht33 => ?_) (fun ht33 => ?_)
    · -- then
      refine CW.seq fun K34 hK34 => ?_
      refine CW.region ?_   -- region 22
      refine WL.val (Y.assign rfl) (by decide) ?_   -- t4 := assign c(false)
      refine WL.nil ?_
      refine hK34 _ _ ?_; try clear hK34 K34
      refine CW.ret ⟨_, rfl, ?_⟩
      exfalso
      have hyl : cops.take x = cops := List.take_of_length_le (by omega)
      by_cases hqa : q ∈ (seenE (addT T cid cops).e)
      · have h1 : goneB cops (nm T.e q) = false := by
          cases h : goneB cops (nm T.e q) with
          | false => rfl
          | true => exact absurd hqa (hgq.1 h)
        have h2 := hk0.2 hqa
        simp_all
      · have h1 := hgq.2 hqa
        have h2 : ¬ 0 ≤ kq := fun h => hqa (hk0.1 h)
        simp_all
    -- else
    refine CW.skip ?_
    refine hK31 _ _ ?_; try clear hK31 K31
    refine CW.region ?_   -- region 23
    refine WL.val (Y.move rfl) (by decide) ?_   -- t95 := move t12
    refine WL.val (Y.move rfl) (by decide) ?_   -- t96 := move t15
    refine WL.val (Y.max2 rfl rfl) (by decide) ?_   -- t97 := call max(t95, t96) : 3,3
    refine WL.val (Y.assign rfl) (by decide) ?_   -- t12 := assign t97
    refine WL.nil ?_
    refine hK17 _ _ ?_; try clear hK17 K17
    refine CW.region ?_   -- region 24
    refine WL.val (Y.add rfl rfl ⟨by omega, by omega⟩) (by decide) ?_   -- t98 := binOp add 3 t57 c(1:i64) 3
    refine WL.val (Y.move rfl) (by decide) ?_   -- t57 := move t98
    refine WL.nil ?_
    refine ⟨(k + 1, if kq > v0 then kq else v0), (by show bm - (k + 1) < bm - k; omega), (by repeat (first | exact Fr.le.nil | refine Fr.le.cons rfl ?_)), (by show k + 1 ≤ bm; omega), ?_, hL3⟩
    show LastI _ _ (k + 1) (if kq > v0 then kq else v0)
    by_cases hk : kq > v0
    · rw [if_pos hk]
      by_cases h0 : 0 ≤ kq
      · have hqa := hk0.1 h0
        exact .inr ⟨k, q, by omega, hq, hqa, by rw [hin, if_pos hqa]⟩
      · exact .inl (by
          have hqa : ¬ q ∈ (seenE (addT T cid cops).e) := fun h => h0 (hk0.2 h)
          rw [hin, if_neg hqa])
    · rw [if_neg hk]
      rcases hlast with h | ⟨t, p, ht, h⟩
      · exact .inl h
      · exact .inr ⟨t, p, by omega, h⟩
  -- else
  refine CW.exit ?_   -- exit 0
  refine hK12 _ _ ?_; try clear hK12 K12
  refine CW.seq fun K35 hK35 => ?_
  refine CW.seq fun K36 hK36 => ?_
  refine CW.region ?_   -- region 25
  refine WL.val (Y.move rfl) (by decide) ?_   -- t99 := move t10
  refine WL.val (Y.len_slice Try.underlying57 rfl) (by decide) ?_   -- t100 := call len(t99) : 57
  refine WL.val (Y.move rfl) (by decide) ?_   -- t101 := move c(0:i64)
  refine WL.nil ?_
  refine hK36 _ _ ?_; try clear hK36 K36
  refine CW.block ?_   -- block 4
  refine CW.loop (X := Nat) (fun x => [(3, .pointer (some ⟨g3, 0, none⟩)), (8, .slice bA bm bk), (99, .slice aA am ak), (100, .int .i64 (am : Int)), (101, .int .i64 (x : Int))]) (fun x w0 => x ≤ am ∧ Ext w9 w0) (fun x => am - x) 0 (by repeat (first | exact Fr.le.nil | refine Fr.le.cons rfl ?_)) ⟨Nat.zero_le _, Chg.refl⟩ ?_
  intro x w14 hl14
  obtain ⟨hxm2, hL4⟩ := hl14
  have hE := hE.thenExt hL4
  have hB3 := hB3.ext hL4
  have hL5 := hL.thenExt hL4
  have hSac := hSa
  refine CW.seq fun K37 hK37 => ?_
  refine CW.region ?_   -- region 26
  refine WL.val (Y.lss rfl rfl) (by decide) ?_   -- t102 := binOp lss 3 t101 t100 3
  refine WL.nil ?_
  refine hK37 _ _ ?_; try clear hK37 K37
  refine CW.seq fun K38 hK38 => ?_
  first | refine CW.condD rfl (fun ht39 => ?_) (fun ht39 => ?_) | refine CW.condND rfl (fun ht39 => ?_) (fun ht39 => ?_) | refine CW.condN rfl (fun ht39 => ?_) (fun ht39 => ?_) | refine CW.cond rfl (fun ht39 => ?_) (fun ht39 => ?_)
  · -- then
    refine CW.skip ?_
    refine hK38 _ _ ?_; try clear hK38 K38
    refine CW.seq fun K40 hK40 => ?_
    refine CW.block ?_   -- block 5
    refine CW.seq fun K41 hK41 => ?_
    obtain ⟨q, hq⟩ : ∃ q, (seenE (addT T cid cops).e)[x]? = some q := ⟨_, List.getElem?_eq_getElem (by omega)⟩
    have hqm := List.mem_of_getElem? hq
    have hAx : ((seenE (addT T cid cops).e).map (nm (addT T cid cops).e))[x]? = some (nm (addT T cid cops).e q) := by rw [List.getElem?_map, hq]; rfl
    obtain ⟨ba, rfl, hma⟩ := hSac.get hAx
    have hnew : inI ((seenE T.e).map (nm T.e)) (nm (addT T cid cops).e q) < 0 → (nm (addT T cid cops).e q).c = cid := fun h => by
      rcases hK.new q hqm with h2 | h2
      · rw [hK.old q (hsbl q h2), inI_nm hok.good (hsbl q h2) hsbl, if_pos h2] at h
        omega
      · exact h2
    refine CW.region ?_   -- region 27
    refine WL.val (Y.indexAddrN Try.underlying57 rfl rfl sz0_apiRef (by omega)) (by decide) ?_   -- t103 := indexAddr 57 t99 t101
    refine WL.val (Y.load Try.underlying49 rfl (hma.ext hL5) (sz_apiRef _) rfl) (by decide) ?_   -- t104 := load 49 t103
    refine as_apiRef rfl (by simp) (by decide) fun g20 w15 hx15 hg20 hB20 => ?_   -- alloc 49; store 49 t20 t104
    have hlt20 := hB20.lt; have hz15 := hx15.size
    have hM20 := hB20.mem; have hz15 := hx15.size; have hE := hE.thenExt hx15; have hB3 := hB3.ext hx15
    refine WL.nil ?_
    refine hK41 _ _ ?_; try clear hK41 K41
    refine CW.seq_testE 115 (False) ?_ ?_
    · refine CW.region ?_
      refine WL.val (Y.move rfl) (by decide) ?_   -- t105 := move t8
      refine WL.val (Y.load Try.underlying49 rfl hB20.mem (sz_apiRef _) rfl) (by decide) ?_   -- t106 := load 49 t20
      refine WL.call Try.func22 rfl rfl rfl (in_any _ ((seenE T.e).map (nm T.e)) _ _ ((hSb.ext hL5).ext hx15)) (by simp) ?_; rintro v w16 ⟨rfl, hx16⟩; have hz16 := hx16.size; have hE := hE.thenExt hx16; have hB3 := hB3.ext hx16; have hB20 := hB20.ext hx16   -- t107 := call F22(t105, t106) : 57,49
      refine WL.val (Y.lss rfl rfl) (by decide) ?_   -- t108 := binOp lss 3 t107 c(0:i64) 3
      refine WL.val (Y.move rfl) (by decide) ?_   -- t109 := move t108
      first | refine WL.casesD (d := 109) rfl (fun hg109 => ?_) (fun hg109 => ?_) | refine WL.casesND (d := 109) rfl (fun hg109 => ?_) (fun hg109 => ?_) | refine WL.cases (d := 109) rfl (fun hg109 => ?_) (fun hg109 => ?_)
      · -- t109 = T
        refine WL.gval rfl rfl (Y.fieldAddr fo_apiRef1 rfl) (by decide) ?_   -- t110 := fieldAddr 49 t20 1 [if 4=true]
        refine WL.gval rfl rfl (Y.load Try.underlying24 rfl hB20.mem.ref1 (sz_apiDigest _) rfl) (by decide) ?_   -- t111 := load 24 t110 [if 4=true]
        refine WL.gval rfl rfl (Y.fieldAddr fo_recensionlaw08Commit0 rfl) (by decide) ?_   -- t112 := fieldAddr 42 t3 0 [if 4=true]
        refine WL.gval rfl rfl (Y.load Try.underlying24 rfl hB3.mem.recensionlaw08Commit0 (sz_apiDigest _) rfl) (by decide) ?_   -- t113 := load 24 t112 [if 4=true]
        refine WL.gval rfl rfl (Y.neq_apiDigest rfl rfl) (by decide) ?_   -- t114 := binOp neq 24 t111 t113 24 [if 4=true]
        refine WL.val (Y.pick rfl rfl) (by decide) ?_   -- t115 := pick t109 t114 c(false)
        refine WL.nil ⟨⟨_, rfl, ?_⟩, hx16, (by repeat (first | exact Fr.le.refl | refine Fr.le.push rfl ?_))⟩
        first | (simp only [*, Int.natCast_inj, Bool.not_eq_true', decide_eq_false_iff_not, decide_eq_true_eq, not_true_eq_false, not_false_eq_true, true_and, false_and, and_true, and_false, false_or, or_false, true_or, or_true, iff_true, true_iff, iff_false, false_iff]; done) | (simp_all; done) | (refine congrArg Value.bool (Bool.eq_iff_iff.2 ?_); simp_all; done) | (simp_all; omega)
      · -- t109 = F
        refine WL.goff rfl rfl (by decide) ?_   -- t110 := fieldAddr 49 t20 1 [if 4=true]
        refine WL.goff rfl rfl (by decide) ?_   -- t111 := load 24 t110 [if 4=true]
        refine WL.goff rfl rfl (by decide) ?_   -- t112 := fieldAddr 42 t3 0 [if 4=true]
        refine WL.goff rfl rfl (by decide) ?_   -- t113 := load 24 t112 [if 4=true]
        refine WL.goff rfl rfl (by decide) ?_   -- t114 := binOp neq 24 t111 t113 24 [if 4=true]
        refine WL.val (Y.pick rfl rfl) (by decide) ?_   -- t115 := pick t109 t114 c(false)
        refine WL.nil ⟨⟨_, rfl, ?_⟩, hx16, (by repeat (first | exact Fr.le.refl | refine Fr.le.push rfl ?_))⟩
        first | (simp only [*, Int.natCast_inj, Bool.not_eq_true', decide_eq_false_iff_not, decide_eq_true_eq, not_true_eq_false, not_false_eq_true, true_and, false_and, and_true, and_false, false_or, or_false, true_or, or_true, iff_true, true_iff, iff_false, false_iff]; done) | (simp_all; done) | (refine congrArg Value.bool (Bool.eq_iff_iff.2 ?_); simp_all; done) | (simp_all; omega)
    intro w17 hx17; have hz17 := hx17.size; have hE := hE.thenExt hx17; have hB3 := hB3.ext hx17; have hB20 := hB20.ext hx17
    first | refine CW.condD rfl (fun ht42 => ?_) (fun ht42 => ?_) | refine CW.condND rfl (fun ht42 => ?_) (fun ht42 => ?_) | refine CW.condN rfl (fun ht42 => ?_) (fun ht42 => ?_) | refine CW.cond rfl (fun ht42 => ?_) (fun ht42 => ?_)
    · -- then
      refine CW.seq fun K43 hK43 => ?_
      refine CW.region ?_   -- region 29
      refine WL.val (Y.assign rfl) (by decide) ?_   -- t4 := assign c(false)
      refine WL.nil ?_
      refine hK43 _ _ ?_; try clear hK43 K43
      refine CW.ret ⟨_, rfl, ?_⟩
      exact False.elim (by assumption)
    -- else
    refine CW.skip ?_
    refine hK40 _ _ ?_; try clear hK40 K40
    refine CW.region ?_   -- region 30
    refine WL.val (Y.add rfl rfl ⟨by omega, by omega⟩) (by decide) ?_   -- t116 := binOp add 3 t101 c(1:i64) 3
    refine WL.val (Y.move rfl) (by decide) ?_   -- t101 := move t116
    refine WL.nil ?_
    exact ⟨x + 1, (by show am - (x + 1) < am - x; omega), (by repeat (first | exact Fr.le.nil | refine Fr.le.cons rfl ?_)), (by show x + 1 ≤ am; omega), (hL4.thenExt hx15).thenExt hx17⟩
  -- else
  refine CW.exit ?_   -- exit 4
  refine hK35 _ _ ?_; try clear hK35 K35
  refine CW.seq fun K44 hK44 => ?_
  refine CW.region ?_   -- region 31
  refine WL.val (Y.assign rfl) (by decide) ?_   -- t4 := assign c(true)
  refine WL.nil ?_
  refine hK44 _ _ ?_; try clear hK44 K44
  refine CW.ret ⟨_, rfl, ?_⟩
  exact ⟨rfl, hE⟩
end Go.Proofs.Ytffkmlkdlhkkmaa
