/- all, walked. No condition. -/
import Derived.Test.YtffkmlkdlhkkmaaFe
import Derived.Test.YtffkmlkdlhkkmaaQd
set_option linter.unusedSimpArgs false
set_option linter.unusedVariables false
namespace Go.Proofs.Ytffkmlkdlhkkmaa
open Go.RowKit Go.Fw Go.Fu Go.Pl
/-- The commits, plain. -/
abbrev comsL (l : List CmV) : Coms := l.map fun x => (x.id, x.ops)
/-- A tree to which some of them were added. -/
structure AlAt (w w0 : World) (l : List CmV) (g rb ra : Nat) (ns : List Nn) (L : Coms) (T : Tr) : Prop where
  ft : FtAt w0 g rb ra T.ad ns
  fe : Fw.els ns = T.e
  ok : TreeOk L T
  sub : ∀ c ∈ L, c ∈ comsL l
  fnew : ∀ q, Fp g rb ra ns q → w.heap.size ≤ q
  ext : Ext w w0

set_option maxHeartbeats 1000000 in
theorem all_any (u : Value) (l : List CmV) (w : World) (hl : Cms w u l) : Calls Try.prog 23 #[u] w (Ret fun v w' => ∃ g rb ra ns L T, v = .pointer (some ⟨g, 0, none⟩) ∧ AlAt w w' l g rb ra ns L T ∧ Sat (comsL l) T) := by
  obtain ⟨A, m, c, rfl, hm, hmc, hcm, _⟩ := _root_.id hl.sl
  unfold maxLen at hcm
  have hcl : (comsL l).length = l.length := List.length_map _
  refine calls_of_CW 35 [2] [(0, .slice A m c)] Try.func23 rfl rfl rfl (by simp) args1 ?_
  have hE : Ext w w := Chg.refl
  refine CW.seq fun K1 hK1 => ?_
  refine CW.region ?_   -- region 0
  refine WL.val (Y.assign rfl) (by decide) ?_   -- t2 := assign c(['Go.Value.pointer', 'none'])
  refine WL.nil ?_
  refine hK1 _ _ ?_; try clear hK1 K1
  refine CW.seq fun K2 hK2 => ?_
  refine CW.region ?_   -- region 1
  refine WL.call Try.func30 rfl rfl rfl (fnew_any _) (by simp) ?_; rintro v8 w1 hR1   -- t8 := call F30() : 
  obtain ⟨g, rb, ra, gn, rfl, hn1, hn2, hn3, hn4, hT, hx1⟩ := hR1
  have hz1 := hx1.size
  have hE := hE.thenExt hx1
  have hA : AlAt w w1 l g rb ra (newN gn) [] Tr.new := ⟨hT, rfl, treeOk_new, fun c hc => by simp at hc, fun q hq => by have := hq.ofNew; omega, hE⟩
  refine WL.val (Y.assign rfl) (by decide) ?_   -- t3 := assign t8
  refine WL.nil ?_
  refine hK2 _ _ ?_; try clear hK2 K2
  refine CW.seq_to (X := List Nn × Coms × Tr) (fun y => [(3, .pointer (some ⟨g, 0, none⟩))]) (fun y w0 => AlAt w w0 l g rb ra y.1 y.2.1 y.2.2 ∧ Sat (comsL l) y.2.2) ?_ ?_
  · skip
    refine CW.seq fun K4 hK4 => ?_
    refine CW.region ?_   -- region 2
    refine WL.val (Y.assign rfl) (by decide) ?_   -- t4 := assign c(0:i64)
    refine WL.nil ?_
    refine hK4 _ _ ?_; try clear hK4 K4
    refine CW.block ?_   -- block 0
    refine CW.loop (X := Nat × List Nn × Coms × Tr) (fun x => [(0, .slice A m c), (3, .pointer (some ⟨g, 0, none⟩)), (4, .int .i64 (x.1 : Int))]) (fun x w0 => x.1 ≤ m ∧ AlAt w w0 l g rb ra x.2.1 x.2.2.1 x.2.2.2 ∧ x.1 ≤ x.2.2.1.length) (fun x => m - x.1) (0, newN gn, [], Tr.new) (by repeat (first | exact Fr.le.nil | refine Fr.le.cons rfl ?_)) ⟨Nat.zero_le _, hA, Nat.zero_le _⟩ ?_
    intro x w2 hl2
    obtain ⟨i, ns0, L0, T0⟩ := x
    dsimp only at hl2 ⊢
    obtain ⟨him, hA0, hiL⟩ := hl2
    refine CW.seq fun K5 hK5 => ?_
    refine CW.seq fun K6 hK6 => ?_
    refine CW.region ?_   -- region 3
    refine WL.val (Y.move rfl) (by decide) ?_   -- t9 := move t4
    refine WL.val (Y.move rfl) (by decide) ?_   -- t10 := move t0
    refine WL.val (Y.len_slice Try.underlying22 rfl) (by decide) ?_   -- t11 := call len(t10) : 22
    refine WL.val (Y.lss rfl rfl) (by decide) ?_   -- t12 := binOp lss 3 t9 t11 3
    refine WL.nil ?_
    refine hK6 _ _ ?_; try clear hK6 K6
    first | refine CW.condD rfl (fun ht7 => ?_) (fun ht7 => ?_) | refine CW.condND rfl (fun ht7 => ?_) (fun ht7 => ?_) | refine CW.condN rfl (fun ht7 => ?_) (fun ht7 => ?_) | refine CW.cond rfl (fun ht7 => ?_) (fun ht7 => ?_)
    · -- then
      refine CW.skip ?_
      refine hK5 _ _ ?_; try clear hK5 K5
      refine CW.seq fun K8 hK8 => ?_
      refine CW.block ?_   -- block 1
      refine CW.seq fun K9 hK9 => ?_
      refine CW.region ?_   -- region 5
      refine WL.val (Y.assign rfl) (by decide) ?_   -- t5 := assign c(false)
      refine WL.nil ?_
      refine hK9 _ _ ?_; try clear hK9 K9
      refine CW.seq fun K10 hK10 => ?_
      refine CW.seq fun K11 hK11 => ?_
      refine CW.region ?_   -- region 6
      refine WL.val (Y.move rfl) (by decide) ?_   -- t15 := move t0
      refine WL.val (Y.len_slice Try.underlying22 rfl) (by decide) ?_   -- t16 := call len(t15) : 22
      refine WL.val (Y.move rfl) (by decide) ?_   -- t17 := move c(0:i64)
      refine WL.nil ?_
      refine hK11 _ _ ?_; try clear hK11 K11
      refine CW.block ?_   -- block 2
      refine CW.loop (X := Nat × Bool × List Nn × Coms × Tr) (fun x => [(0, .slice A m c), (3, .pointer (some ⟨g, 0, none⟩)), (4, .int .i64 (i : Int)), (5, .bool x.2.1), (15, .slice A m c), (16, .int .i64 (m : Int)), (17, .int .i64 (x.1 : Int))]) (fun x w0 => x.1 ≤ m ∧ AlAt w w0 l g rb ra x.2.2.1 x.2.2.2.1 x.2.2.2.2 ∧ i ≤ x.2.2.2.1.length ∧ (x.2.1 = true → i + 1 ≤ x.2.2.2.1.length) ∧ (x.2.1 = false → ∀ d ∈ (comsL l).take x.1, wrongC x.2.2.2.2 d.1 d.2 ≠ 0)) (fun x => m - x.1) (0, false, ns0, L0, T0) (by repeat (first | exact Fr.le.nil | refine Fr.le.cons rfl ?_)) ⟨Nat.zero_le _, hA0, hiL, (fun h => by cases h), (fun _ d hd => by simp at hd)⟩ ?_
      intro x w3 hl3
      obtain ⟨j, sm, ns, L, T⟩ := x
      dsimp only at hl3 ⊢
      obtain ⟨hjm, hA, hiL1, hsm1, hsm0⟩ := hl3
      have hE0 := hA.ext
      have hz0 := hE0.size
      have hE : Ext w3 w3 := Chg.refl
      refine CW.seq fun K12 hK12 => ?_
      refine CW.region ?_   -- region 7
      refine WL.val (Y.lss rfl rfl) (by decide) ?_   -- t18 := binOp lss 3 t17 t16 3
      refine WL.nil ?_
      refine hK12 _ _ ?_; try clear hK12 K12
      refine CW.seq fun K13 hK13 => ?_
      first | refine CW.condD rfl (fun ht14 => ?_) (fun ht14 => ?_) | refine CW.condND rfl (fun ht14 => ?_) (fun ht14 => ?_) | refine CW.condN rfl (fun ht14 => ?_) (fun ht14 => ?_) | refine CW.cond rfl (fun ht14 => ?_) (fun ht14 => ?_)
      · -- then
        refine CW.skip ?_
        refine hK13 _ _ ?_; try clear hK13 K13
        refine CW.seq fun K15 hK15 => ?_
        refine CW.block ?_   -- block 3
        refine CW.seq fun K16 hK16 => ?_
        obtain ⟨y, hy⟩ : ∃ y, l[j]? = some y := ⟨_, List.getElem?_eq_getElem (by omega)⟩
        have hym := List.mem_of_getElem? hy
        have hCj : (comsL l)[j]? = some (y.id, y.ops) := by rw [List.getElem?_map, hy]; rfl
        obtain ⟨aa, rfl, hmy⟩ := (hl.ext hE0).sl.get hy
        refine CW.region ?_   -- region 8
        refine WL.val (Y.indexAddrN Try.underlying22 rfl rfl sz0_recensionlaw08Commit (by omega)) (by decide) ?_   -- t19 := indexAddr 22 t15 t17
        refine WL.val (Y.load Try.underlying42 rfl hmy (sz_recensionlaw08Commit _) rfl) (by decide) ?_   -- t20 := load 42 t19
        refine as_recensionlaw08Commit rfl (by simp) (by decide) fun g7 w4 hx4 hg7 hB7 => ?_   -- alloc 42; store 42 t7 t20
        have hlt7 := hB7.lt; have hz4 := hx4.size
        have hM7 := hB7.mem; have hz4 := hx4.size; have hE := hE.thenExt hx4
        refine WL.nil ?_
        refine hK16 _ _ ?_; try clear hK16 K16
        refine CW.region ?_   -- region 9
        refine WL.val (Y.move rfl) (by decide) ?_   -- t21 := move t3
        refine WL.val (Y.fieldAddr fo_recensionlaw08Commit0 rfl) (by decide) ?_   -- t22 := fieldAddr 42 t7 0
        refine WL.val (Y.load Try.underlying24 rfl hB7.mem.recensionlaw08Commit0 (sz_apiDigest _) rfl) (by decide) ?_   -- t23 := load 24 t22
        refine WL.val (Y.fieldAddr fo_recensionlaw08Commit1 rfl) (by decide) ?_   -- t24 := fieldAddr 42 t7 1
        refine WL.val (Y.load1 Try.underlying35 rfl hB7.mem.recensionlaw08Commit1 rfl) (by decide) ?_   -- t25 := load 35 t24
        refine WL.call Try.func17 rfl rfl rfl (fadd_any g rb ra T.ad ns y.id _ y.ops L _ (hA.ft.ext hE) (by rw [hA.fe]; exact hA.ok) ((hl.ops y hym).ext (hE0.thenExt hE)) (fun h0 q hq => by have h1 := (hl.ops y hym).own_lt opC_ne h0 q hq; exact ⟨by omega, fun h => by have := hA.fnew q h; omega⟩)) (by simp) ?_; rintro v26 w5 hR5   -- t26 := call F17(t21, t23, t25) : 27,24,35
        obtain ⟨rfl, ns2, hT2, he2, hc2, hf2, _⟩ := hR5
        have hz5 := hc2.size
        rw [hA.fe] at hT2 he2
        obtain ⟨L2, hok2, hLs⟩ := hA.ok.addT y.id y.ops
        have hwe : wrongC ⟨T.ad, Fw.els ns⟩ y.id y.ops = wrongC T y.id y.ops := by rw [hA.fe]
        rw [hwe]
        have hA2 : AlAt w w5 l g rb ra ns2 L2 (addT T y.id y.ops) := {
          ft := hT2
          fe := he2
          ok := hok2
          sub := fun d hd => by
            rcases hLs with h | ⟨_, h⟩
            · rw [h] at hd; exact hA.sub d hd
            · rw [h] at hd
              rcases List.mem_append.1 hd with hd | hd
              · exact hA.sub d hd
              · simp at hd; subst hd; exact List.mem_of_getElem? hCj
          fnew := fun q hq => by
            rcases hf2 q hq with h | h
            · exact hA.fnew q h
            · omega
          ext := (hE0.thenExt hE).step hc2 (fun q hq => hA.fnew q hq) }
        refine WL.val (Y.eql rfl rfl) (by decide) ?_   -- t27 := binOp eql 38 t26 c(0:i64) 38
        refine WL.val (Y.move rfl) (by decide) ?_   -- t28 := move t27
        first | refine WL.casesD (d := 28) rfl (fun hg28 => ?_) (fun hg28 => ?_) | refine WL.casesND (d := 28) rfl (fun hg28 => ?_) (fun hg28 => ?_) | refine WL.cases (d := 28) rfl (fun hg28 => ?_) (fun hg28 => ?_)
        · -- t28 = T
          refine WL.goff rfl rfl (by decide) ?_   -- t29 := move t5 [if 7=false]
          refine WL.val (Y.pick rfl rfl) (by decide) ?_   -- t30 := pick t28 c(true) t29
          refine WL.val (Y.assign rfl) (by decide) ?_   -- t5 := assign t30
          refine WL.nil ?_
          refine hK15 _ _ ?_; try clear hK15 K15
          refine CW.region ?_   -- region 10
          refine WL.val (Y.add rfl rfl ⟨by omega, by omega⟩) (by decide) ?_   -- t31 := binOp add 3 t17 c(1:i64) 3
          refine WL.val (Y.move rfl) (by decide) ?_   -- t17 := move t31
          refine WL.nil ?_
          have hw0 : wrongC T y.id y.ops = 0 := by assumption
          have hLl : L2.length = L.length + 1 := by
            have h1 := hok2.ads
            have h2 := hA.ok.ads
            have h3 : (addT T y.id y.ops).ad = T.ad ++ [y.id] := by rw [addT, if_pos hw0]
            rw [h3, h2] at h1
            have := congrArg List.length h1
            simpa using this.symm
          exact ⟨(j + 1, true, ns2, L2, addT T y.id y.ops), (by show m - (j + 1) < m - j; omega), (by repeat (first | exact Fr.le.nil | refine Fr.le.cons rfl ?_)), (by show j + 1 ≤ m; omega), hA2, (by show i ≤ L2.length; omega), (fun _ => by show i + 1 ≤ L2.length; omega), (fun h => by cases h)⟩
        · -- t28 = F
          refine WL.gval rfl rfl (Y.move rfl) (by decide) ?_   -- t29 := move t5 [if 7=false]
          refine WL.val (Y.pick rfl rfl) (by decide) ?_   -- t30 := pick t28 c(true) t29
          refine WL.val (Y.assign rfl) (by decide) ?_   -- t5 := assign t30
          refine WL.nil ?_
          refine hK15 _ _ ?_; try clear hK15 K15
          refine CW.region ?_   -- region 10
          refine WL.val (Y.add rfl rfl ⟨by omega, by omega⟩) (by decide) ?_   -- t31 := binOp add 3 t17 c(1:i64) 3
          refine WL.val (Y.move rfl) (by decide) ?_   -- t17 := move t31
          refine WL.nil ?_
          have hw0 : ¬ wrongC T y.id y.ops = 0 := by assumption
          have hTT : addT T y.id y.ops = T := by rw [addT, if_neg hw0]
          have hLl : L2.length = L.length := by
            have h1 := hok2.ads
            have h2 := hA.ok.ads
            rw [hTT, h2] at h1
            have := congrArg List.length h1
            simpa using this.symm
          rw [hTT] at hA2
          exact ⟨(j + 1, sm, ns2, L2, T), (by show m - (j + 1) < m - j; omega), (by repeat (first | exact Fr.le.nil | refine Fr.le.cons rfl ?_)), (by show j + 1 ≤ m; omega), hA2, (by show i ≤ L2.length; omega), (fun h => by show i + 1 ≤ L2.length; have := hsm1 h; omega), (fun h d hd => by
            rw [show (j + 1, sm, ns2, L2, T).1 = j + 1 from rfl, Go.Pl.take_succ hCj] at hd
            rcases List.mem_append.1 hd with hd | hd
            · exact hsm0 h d hd
            · simp at hd; subst hd; exact hw0)⟩
      -- else
      refine CW.exit ?_   -- exit 2
      refine hK10 _ _ ?_; try clear hK10 K10
      refine CW.seq fun K17 hK17 => ?_
      refine CW.region ?_   -- region 11
      refine WL.val (Y.move rfl) (by decide) ?_   -- t32 := move t5
      refine WL.val (Y.not rfl) (by decide) ?_   -- t33 := unOp not 4 t32
      refine WL.nil ?_
      refine hK17 _ _ ?_; try clear hK17 K17
      first | refine CW.condD rfl (fun ht18 => ?_) (fun ht18 => ?_) | refine CW.condND rfl (fun ht18 => ?_) (fun ht18 => ?_) | refine CW.condN rfl (fun ht18 => ?_) (fun ht18 => ?_) | refine CW.cond rfl (fun ht18 => ?_) (fun ht18 => ?_)
      · -- then
        refine CW.exit ?_   -- exit 0
        have hs0 : sm = false := by simp_all
        exact ⟨(ns, L, T), (by repeat (first | exact Fr.le.nil | refine Fr.le.cons rfl ?_)), hA, fun d hd => hsm0 hs0 d (by rw [List.take_of_length_le (by omega)]; exact hd)⟩
      -- else
      refine CW.skip ?_
      refine hK8 _ _ ?_; try clear hK8 K8
      refine CW.region ?_   -- region 4
      refine WL.val (Y.move rfl) (by decide) ?_   -- t13 := move t4
      refine WL.val (Y.add rfl rfl ⟨by omega, by omega⟩) (by decide) ?_   -- t14 := binOp add 3 t13 c(1:i64) 3
      refine WL.val (Y.assign rfl) (by decide) ?_   -- t4 := assign t14
      refine WL.nil ?_
      have hs1 : sm = true := by simp_all
      have := hsm1 hs1
      exact ⟨(i + 1, ns, L, T), (by show m - (i + 1) < m - i; omega), (by repeat (first | exact Fr.le.nil | refine Fr.le.cons rfl ?_)), (by show i + 1 ≤ m; omega), hA, this⟩
    -- else
    refine CW.exit ?_   -- exit 0
    exact ⟨(ns0, L0, T0), (by repeat (first | exact Fr.le.nil | refine Fr.le.cons rfl ?_)), hA0, sat_full hA0.ok hA0.sub (by show (comsL l).length ≤ L0.length; omega)⟩
  rintro u w6 hj6
  obtain ⟨hA, hS⟩ := hj6
  refine CW.seq fun K19 hK19 => ?_
  refine CW.region ?_   -- region 12
  refine WL.val (Y.move rfl) (by decide) ?_   -- t34 := move t3
  refine WL.val (Y.assign rfl) (by decide) ?_   -- t2 := assign t34
  refine WL.nil ?_
  refine hK19 _ _ ?_; try clear hK19 K19
  refine CW.ret ⟨_, rfl, ?_⟩
  exact ⟨g, rb, ra, u.1, u.2.1, u.2.2, rfl, hA, hS⟩
end Go.Proofs.Ytffkmlkdlhkkmaa
