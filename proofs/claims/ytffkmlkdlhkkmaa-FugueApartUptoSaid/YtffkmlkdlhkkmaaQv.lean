/- Fugue's tree: Text, Ref, Place, Gap, walked. No condition. -/
import Derived.Test.YtffkmlkdlhkkmaaQt
set_option linter.unusedSimpArgs false
set_option linter.unusedVariables false
namespace Go.Proofs.Ytffkmlkdlhkkmaa
open Go.RowKit Go.Fw Go.Fu Go.Pl
theorem gapI_lt {e : List El} (hG : Fu.Good e) {n : Int} (h0 : 0 ≤ n) (h1 : n ≤ ((seenE e).length : Int)) : gapI e n < e.length := by
  unfold gapI
  by_cases h : n = 0
  · rw [if_pos h]; exact hG.pos
  · rw [if_neg h]
    obtain ⟨q, hq⟩ : ∃ q, (seenE e)[(n - 1).toNat]? = some q := ⟨_, List.getElem?_eq_getElem (by omega)⟩
    rw [hq]; exact seen_lt hG.down (List.mem_of_getElem? hq)
def placeV (e : List El) (r : RefD) : Int × Bool := match placeE e r with
  | some i => ((i : Int), true)
  | none => (0, false)
theorem place_some {e : List El} {r : RefD} {i q : Nat} (h : (seenE e)[i]? = some q) (hn : nm e q = r) (hb : ∀ (t p : Nat), t < i → (seenE e)[t]? = some p → nm e p ≠ r) : placeV e r = ((i : Int), true) := by
  have : placeE e r = some i := by
    rw [placeE, List.findIdx?_eq_some_iff_getElem]
    obtain ⟨hl, rfl⟩ := List.getElem?_eq_some_iff.1 h
    exact ⟨hl, decide_eq_true hn, fun j hj => by have := hb j _ hj (List.getElem?_eq_getElem (by omega)); simpa using this⟩
  rw [placeV, this]
theorem place_none {e : List El} {r : RefD} (hb : ∀ (t p : Nat), t < (seenE e).length → (seenE e)[t]? = some p → nm e p ≠ r) : placeV e r = (0, false) := by
  have : placeE e r = none := by
    rw [placeE, List.findIdx?_eq_none_iff]
    intro p hp
    obtain ⟨t, ht⟩ := List.mem_iff_getElem?.1 hp
    have := hb t p (List.getElem?_eq_some_iff.1 ht).1 ht
    simpa using this
  rw [placeV, this]

theorem ftext_any (g rb ra : Nat) (ad : List Dig) (ns : List Nn) (w : World) (hT : FtAt w g rb ra ad ns) (hG : Fu.Good (Fw.els ns)) (hn : ns.length ≤ 400001) : Calls Try.prog 15 #[.pointer (some ⟨g, 0, none⟩)] w (Ret fun v w' => v = .string (bs (textE (Fw.els ns))) ∧ Ext w w') := by
  have hlv : (seenE (Fw.els ns)).length = liveN ns := hG.seen_length
  have hel : (Fw.els ns).length = ns.length := List.length_map _
  have hsl : ∀ q, q ∈ seenE (Fw.els ns) → q < ns.length := fun q hq => by rw [← hel]; exact seen_lt hG.down hq
  obtain ⟨ir, hir, hzr, hsr⟩ := info_apiRef
  have hli : (seenE (Fw.els ns)).length ≤ 400001 := by
    have := List.countP_le_length (p := fun x : El => !x.gone) (l := Fw.els ns)
    rw [hlv]; rw [List.length_map] at this; exact Nat.le_trans this hn
  refine calls_of_CW 23 [2] [(0, .pointer (some ⟨g, 0, none⟩))] Try.func15 rfl rfl rfl (by simp) args1 ?_
  have hE : Ext w w := Chg.refl
  refine CW.seq fun K1 hK1 => ?_
  refine CW.region ?_   -- region 0
  refine WL.val (Y.assign rfl) (by decide) ?_   -- t2 := assign c(STR)
  refine WL.nil ?_
  refine hK1 _ _ ?_; try clear hK1 K1
  refine CW.seq fun K2 hK2 => ?_
  refine CW.region ?_   -- region 1
  refine WL.val (Y.assign rfl) (by decide) ?_   -- t3 := assign c(nilslice)
  refine WL.nil ?_
  refine hK2 _ _ ?_; try clear hK2 K2
  refine CW.seq fun K3 hK3 => ?_
  refine CW.seq fun K4 hK4 => ?_
  refine CW.region ?_   -- region 2
  refine WL.val (Y.move rfl) (by decide) ?_   -- t6 := move t0
  refine WL.call Try.func36 rfl rfl rfl (flist_any g rb ra ad ns _ hT hG hn) (by simp) ?_; rintro v7 w1 hR1   -- t7 := call F36(t6) : 27
  obtain ⟨hO1, hf1, hx1⟩ := hR1
  obtain ⟨A, m, c, rfl⟩ := hO1.lens
  obtain ⟨hlm, hlg⟩ := ptr_map hO1
  have hcc := (hO1.mem A m c rfl).2.2.2
  unfold maxLen at hcc
  have hE := hE.thenExt hx1
  refine WL.val (Y.len_slice Try.underlying93 rfl) (by decide) ?_   -- t8 := call len(t7) : 93
  refine WL.val (Y.move rfl) (by decide) ?_   -- t9 := move c(0:i64)
  refine WL.nil ?_
  refine hK4 _ _ ?_; try clear hK4 K4
  refine CW.block ?_   -- block 0
  refine CW.loop (X := Nat × Value) (fun x => [(0, .pointer (some ⟨g, 0, none⟩)), (3, x.2), (7, .slice A m c), (8, .int .i64 (m : Int)), (9, .int .i64 (x.1 : Int))]) (fun x w0 => x.1 ≤ m ∧ Own w0 5 1 x.2 (bytesC (((seenE (Fw.els ns)).take x.1).map (byteAt (Fw.els ns)))) ∧ Own w0 TP 1 (.slice A m c) (ptrL ((seenE (Fw.els ns)).map (gOf ns))) ∧ (∀ k, x.2.ownBlock = some k → w.heap.size ≤ k) ∧ Ext w w0) (fun x => m - x.1) (0, .slice none 0 0) (by repeat (first | exact Fr.le.nil | refine Fr.le.cons rfl ?_)) ⟨Nat.zero_le _, Own.nil, hO1, (fun k hk => by simp [Value.ownBlock] at hk), hE⟩ ?_
  intro x w2 hl2
  obtain ⟨k, bv⟩ := x
  dsimp only at hl2 ⊢
  obtain ⟨hkm, hOb, hOl, hfb, hE⟩ := hl2
  obtain ⟨hlm, hlg⟩ := ptr_map hOl
  refine CW.seq fun K5 hK5 => ?_
  refine CW.region ?_   -- region 3
  refine WL.val (Y.lss rfl rfl) (by decide) ?_   -- t10 := binOp lss 3 t9 t8 3
  refine WL.nil ?_
  refine hK5 _ _ ?_; try clear hK5 K5
  refine CW.seq fun K6 hK6 => ?_
  first | refine CW.condD rfl (fun ht7 => ?_) (fun ht7 => ?_) | refine CW.condND rfl (fun ht7 => ?_) (fun ht7 => ?_) | refine CW.condN rfl (fun ht7 => ?_) (fun ht7 => ?_) | refine CW.cond rfl (fun ht7 => ?_) (fun ht7 => ?_)
  · -- then
    refine CW.skip ?_
    refine hK6 _ _ ?_; try clear hK6 K6
    refine CW.seq fun K8 hK8 => ?_
    refine CW.block ?_   -- block 1
    refine CW.seq fun K9 hK9 => ?_
    obtain ⟨q, hq⟩ : ∃ q, (seenE (Fw.els ns))[k]? = some q := ⟨_, List.getElem?_eq_getElem (by omega)⟩
    obtain ⟨a, rfl, hma⟩ := hlg k q hq
    obtain ⟨z, hz⟩ : ∃ z, ns[q]? = some z := ⟨_, List.getElem?_eq_getElem (hsl q (List.mem_of_getElem? hq))⟩
    have hze : (Fw.els ns)[q]? = some z.el := by rw [List.getElem?_map, hz]; rfl
    have hzb := (hT.node q z hz).ext hE
    rw [gOf_at hz] at hma
    refine CW.region ?_   -- region 4
    refine WL.val (Y.indexAddrN Try.underlying93 rfl rfl sz0_fuguenode (by omega)) (by decide) ?_   -- t11 := indexAddr 93 t7 t9
    refine WL.val (Y.load1 Try.underlying87 rfl hma.cell0 rfl) (by decide) ?_   -- t12 := load 87 t11
    refine WL.val (Y.assign rfl) (by decide) ?_   -- t5 := assign t12
    refine WL.nil ?_
    refine hK9 _ _ ?_; try clear hK9 K9
    refine CW.region ?_   -- region 5
    refine WL.val (Y.move rfl) (by decide) ?_   -- t13 := move t3
    refine WL.val (Y.move rfl) (by decide) ?_   -- t14 := move t5
    refine WL.val (Y.nilCheck rfl) (by decide) ?_   -- t15 := nilCheck t14
    refine WL.val (Y.fieldAddr fo_fuguenode1 rfl) (by decide) ?_   -- t16 := fieldAddr 96 t15 1
    refine WL.val (Y.load1 Try.underlying5 rfl hzb.mem.fuguenode1 rfl) (by decide) ?_   -- t17 := load 5 t16
    refine WL.st (St.buildSlice rfl (bs1 _)) (by decide) fun v18 w3 hR3 => ?_   -- t18 := buildSlice 92 1 [(0,t17)]
    obtain ⟨g18, rfl, hg18, hB18, hx3⟩ := hR3
    have hz3 := hx3.size
    refine WL.st (St.app (ys := [z.el.byte]) Try.underlying92 Try.underlying92 ai_u8 rfl rfl (hOb.ext hx3) (Blk.src1 hB18) (by rw [List.length_map, List.length_take]; omega)) (by decide) fun v19 w4 hR4 => ?_   -- t19 := call append(t13, t18) : 92,92
    obtain ⟨hO4, hc4, hf4⟩ := hR4
    have hz4 := hc4.size
    have hE4 : Ext w w4 := (hE.thenExt hx3).step hc4 (fun k h => hfb k h)
    have hOl4 := (hOl.ext hx3).chg hc4 (fun k hk h => by
      obtain ⟨_, _, h1⟩ := (hOl.ext hx3).kind hk
      obtain ⟨_, _, h2⟩ := (hOb.ext hx3).kind h
      rw [h1] at h2; injection h2 with h2; injection h2 with _ h2; exact absurd h2 (by decide))
    refine WL.val (Y.assign rfl) (by decide) ?_   -- t3 := assign t19
    refine WL.nil ?_
    refine hK8 _ _ ?_; try clear hK8 K8
    refine CW.region ?_   -- region 6
    refine WL.val (Y.add rfl rfl ⟨by omega, by omega⟩) (by decide) ?_   -- t20 := binOp add 3 t9 c(1:i64) 3
    refine WL.val (Y.move rfl) (by decide) ?_   -- t9 := move t20
    refine WL.nil ?_
    exact ⟨(k + 1, v19), (by show m - (k + 1) < m - k; omega), (by repeat (first | exact Fr.le.nil | refine Fr.le.cons rfl ?_)), (by show k + 1 ≤ m; omega), (by rw [List.take_add_one, hq]; simpa [byteAt_at hze] using hO4), hOl4, (fun q hq => by rcases hf4 with e | e; rw [e] at hq; exact hfb q hq; have := e q hq; have := hE.size; omega), hE4⟩
  -- else
  refine CW.exit ?_   -- exit 0
  refine hK3 _ _ ?_; try clear hK3 K3
  refine CW.seq fun K10 hK10 => ?_
  have hke : (seenE (Fw.els ns)).take k = seenE (Fw.els ns) := List.take_of_length_le (by omega)
  rw [hke] at hOb
  obtain ⟨Ab, mb, cb, rfl⟩ := hOb.lens
  obtain ⟨hm1, hm2, hm3, _⟩ := hOb.mem Ab mb cb rfl
  rw [bytesC_length, Nat.mul_one] at hm3
  refine CW.region ?_   -- region 7
  refine WL.val (Y.move rfl) (by decide) ?_   -- t21 := move t3
  refine WL.val (Y.bytes_string Try.underlying92 Try.underlying5 Try.underlying9 rfl (l := (seenE (Fw.els ns)).map (byteAt (Fw.els ns))) hm3 hm1 hm2) (by decide) ?_   -- t22 := convert 92 9 t21
  refine WL.val (Y.assign rfl) (by decide) ?_   -- t2 := assign t22
  refine WL.nil ?_
  refine hK10 _ _ ?_; try clear hK10 K10
  refine CW.ret ⟨_, rfl, ?_⟩
  exact ⟨rfl, hE⟩
theorem fref_any (g rb ra : Nat) (ad : List Dig) (ns : List Nn) (n : Int) (w : World) (hT : FtAt w g rb ra ad ns) (hG : Fu.Good (Fw.els ns)) (hn : ns.length ≤ 400001) : Calls Try.prog 25 #[.pointer (some ⟨g, 0, none⟩), .int .i64 n] w (Ret fun v w' => v = .tuple #[refV (refT (Fw.els ns) n).1, .bool (refT (Fw.els ns) n).2] ∧ Ext w w') := by
  have hlv : (seenE (Fw.els ns)).length = liveN ns := hG.seen_length
  have hel : (Fw.els ns).length = ns.length := List.length_map _
  have hsl : ∀ q, q ∈ seenE (Fw.els ns) → q < ns.length := fun q hq => by rw [← hel]; exact seen_lt hG.down hq
  obtain ⟨ir, hir, hzr, hsr⟩ := info_apiRef
  have hli : (seenE (Fw.els ns)).length ≤ 400001 := by
    have := List.countP_le_length (p := fun x : El => !x.gone) (l := Fw.els ns)
    rw [hlv]; rw [List.length_map] at this; exact Nat.le_trans this hn
  refine calls_of_CWct 23 4 34 [5] [(0, .pointer (some ⟨g, 0, none⟩)), (1, .int .i64 n)] Try.func25 rfl rfl rfl Try.underlying49 rfl (by kernel_rfl) (by simp) args2 ?_
  have hE : Ext w w := Chg.refl
  refine CW.seq fun K1 hK1 => ?_
  refine CW.region ?_   -- region 0
  refine WL.alloc (hir) (hzr) rfl (by decide) fun g4 w1 hx1 hg4 hB4 => ?_   -- t4 := alloc 49
  have hlt4 := hB4.lt; have hz1 := hx1.size
  have hM4 := hB4.mem; have hz1 := hx1.size; have hE := hE.thenExt hx1
  refine WL.val (Y.assign rfl) (by decide) ?_   -- t5 := assign c(false)
  refine WL.nil ?_
  refine hK1 _ _ ?_; try clear hK1 K1
  refine CW.seq fun K2 hK2 => ?_
  refine CW.seq_testE 13 (n < 0 ∨ (liveN ns : Int) ≤ n) ?_ ?_
  · refine CW.region ?_
    refine WL.val (Y.move rfl) (by decide) ?_   -- t6 := move t1
    refine WL.val (Y.lss rfl rfl) (by decide) ?_   -- t7 := binOp lss 3 t6 c(0:i64) 3
    refine WL.val (Y.move rfl) (by decide) ?_   -- t8 := move t7
    first | refine WL.casesD (d := 8) rfl (fun hg8 => ?_) (fun hg8 => ?_) | refine WL.casesND (d := 8) rfl (fun hg8 => ?_) (fun hg8 => ?_) | refine WL.cases (d := 8) rfl (fun hg8 => ?_) (fun hg8 => ?_)
    · -- t8 = T
      refine WL.goff rfl rfl (by decide) ?_   -- t9 := move t1 [if 2=false]
      refine WL.goff rfl rfl (by decide) ?_   -- t10 := move t0 [if 2=false]
      refine WL.goff rfl rfl (by decide) ?_   -- t11 := call F14(t10) : 27 [if 2=false]
      refine WL.goff rfl rfl (by decide) ?_   -- t12 := binOp geq 3 t9 t11 3 [if 2=false]
      refine WL.val (Y.pick rfl rfl) (by decide) ?_   -- t13 := pick t8 c(true) t12
      refine WL.nil ⟨⟨_, rfl, ?_⟩, Chg.refl, (by repeat (first | exact Fr.le.refl | refine Fr.le.push rfl ?_))⟩
      first | (simp only [*, Int.natCast_inj, Bool.not_eq_true', decide_eq_false_iff_not, decide_eq_true_eq, not_true_eq_false, not_false_eq_true, true_and, false_and, and_true, and_false, false_or, or_false, true_or, or_true, iff_true, true_iff, iff_false, false_iff]; done) | (simp_all; done) | (refine congrArg Value.bool (Bool.eq_iff_iff.2 ?_); simp_all; done) | (simp_all; omega)
    · -- t8 = F
      refine WL.gval rfl rfl (Y.move rfl) (by decide) ?_   -- t9 := move t1 [if 2=false]
      refine WL.gval rfl rfl (Y.move rfl) (by decide) ?_   -- t10 := move t0 [if 2=false]
      refine WL.gcall rfl rfl Try.func14 rfl rfl rfl (flen_any g rb ra ad ns _ (hT.ext hE)) (by decide) ?_; rintro v w2 ⟨rfl, hx2⟩; have hz2 := hx2.size; have hE := hE.thenExt hx2; have hB4 := hB4.ext hx2   -- t11 := call F14(t10) : 27 [if 2=false]
      refine WL.gval rfl rfl (Y.geq rfl rfl) (by decide) ?_   -- t12 := binOp geq 3 t9 t11 3 [if 2=false]
      refine WL.val (Y.pick rfl rfl) (by decide) ?_   -- t13 := pick t8 c(true) t12
      refine WL.nil ⟨⟨_, rfl, ?_⟩, hx2, (by repeat (first | exact Fr.le.refl | refine Fr.le.push rfl ?_))⟩
      first | (simp only [*, Int.natCast_inj, Bool.not_eq_true', decide_eq_false_iff_not, decide_eq_true_eq, not_true_eq_false, not_false_eq_true, true_and, false_and, and_true, and_false, false_or, or_false, true_or, or_true, iff_true, true_iff, iff_false, false_iff]; done) | (simp_all; done) | (refine congrArg Value.bool (Bool.eq_iff_iff.2 ?_); simp_all; done) | (simp_all; omega)
  intro w3 hx3; have hz3 := hx3.size; have hE := hE.thenExt hx3; have hB4 := hB4.ext hx3
  first | refine CW.condD rfl (fun ht3 => ?_) (fun ht3 => ?_) | refine CW.condND rfl (fun ht3 => ?_) (fun ht3 => ?_) | refine CW.condN rfl (fun ht3 => ?_) (fun ht3 => ?_) | refine CW.cond rfl (fun ht3 => ?_) (fun ht3 => ?_)
  · -- then
    refine CW.seq fun K4 hK4 => ?_
    refine CW.region ?_   -- region 2
    refine WL.val (Y.build0 (build_apiRef _)) (by decide) ?_   -- t14 := build 49 []
    refine WL.store (g := g4) (pre := []) (old := refC RefD.zero) (post := []) (new := refC RefD.zero) rfl rfl rfl rfl (sz_apiRef _) (by simpa using hB4) (by simp only [refC_length]) (one_refC) (fun w4 hc4 hB4_ => ?_)   -- _ := store 49 t4 t14
    have hz4 := hc4.size; have hE := hE.step hc4 (fun k h => by omega)
    have hB4 : Blk w4 g4 49 (refC RefD.zero) := by simpa using hB4_
    refine WL.val (Y.assign rfl) (by decide) ?_   -- t5 := assign c(false)
    refine WL.nil ?_
    refine hK4 _ _ ?_; try clear hK4 K4
    refine CW.ret ?_
    exact ⟨_, _, _, rfl, hB4.mem, refC_length _, rfl, ⟨by rw [refT, if_pos (by rw [hlv]; assumption)], hE⟩⟩
  -- else
  refine CW.skip ?_
  refine hK2 _ _ ?_; try clear hK2 K2
  refine CW.seq fun K5 hK5 => ?_
  refine CW.region ?_   -- region 3
  refine WL.val (Y.move rfl) (by decide) ?_   -- t15 := move t0
  refine WL.call Try.func36 rfl rfl rfl (flist_any g rb ra ad ns _ (hT.ext hE) hG hn) (by simp) ?_; rintro v16 w5 hR5   -- t16 := call F36(t15) : 27
  obtain ⟨hO5, hf5, hx5⟩ := hR5
  obtain ⟨A, m, c, rfl⟩ := hO5.lens
  obtain ⟨hlm, hlg⟩ := ptr_map hO5
  have hcc := (hO5.mem A m c rfl).2.2.2
  unfold maxLen at hcc
  have hE := hE.thenExt hx5
  have hB4 := hB4.ext hx5
  obtain ⟨i, rfl⟩ : ∃ i : Nat, n = (i : Int) := ⟨n.toNat, by omega⟩
  obtain ⟨q, hq⟩ : ∃ q, (seenE (Fw.els ns))[i]? = some q := ⟨_, List.getElem?_eq_getElem (by omega)⟩
  obtain ⟨a, rfl, hma⟩ := hlg i q hq
  obtain ⟨z, hz⟩ : ∃ z, ns[q]? = some z := ⟨_, List.getElem?_eq_getElem (hsl q (List.mem_of_getElem? hq))⟩
  have hze : (Fw.els ns)[q]? = some z.el := by rw [List.getElem?_map, hz]; rfl
  have hzb := (hT.node q z hz).ext hE
  rw [gOf_at hz] at hma
  refine WL.val (Y.move rfl) (by decide) ?_   -- t17 := move t1
  refine WL.val (Y.indexAddrN Try.underlying93 rfl rfl sz0_fuguenode (by omega)) (by decide) ?_   -- t18 := indexAddr 93 t16 t17
  refine WL.val (Y.load1 Try.underlying87 rfl (hma.cell0) rfl) (by decide) ?_   -- t19 := load 87 t18
  refine WL.val (Y.nilCheck rfl) (by decide) ?_   -- t20 := nilCheck t19
  refine WL.val (Y.fieldAddr fo_fuguenode0 rfl) (by decide) ?_   -- t21 := fieldAddr 96 t20 0
  refine WL.val (Y.load Try.underlying49 rfl hzb.mem.fuguenode0 (sz_apiRef _) rfl) (by decide) ?_   -- t22 := load 49 t21
  refine WL.store (g := g4) (pre := []) (old := refC RefD.zero) (post := []) (new := refC z.el.name) rfl rfl rfl rfl (sz_apiRef _) (by simpa using hB4) (by simp only [refC_length]) (one_refC) (fun w6 hc6 hB6_ => ?_)   -- _ := store 49 t4 t22
  have hz6 := hc6.size; have hE := hE.step hc6 (fun k h => by omega)
  have hB4 : Blk w6 g4 49 (refC z.el.name) := by simpa using hB6_
  refine WL.val (Y.assign rfl) (by decide) ?_   -- t5 := assign c(true)
  refine WL.nil ?_
  refine hK5 _ _ ?_; try clear hK5 K5
  refine CW.ret ?_
  exact ⟨_, _, _, rfl, hB4.mem, refC_length _, rfl, ⟨by rw [refT, if_neg (by rw [hlv]; assumption), show ((i : Int)).toNat = i by omega, hq]; simp [nm_at hze], hE⟩⟩
theorem fplace_any (g rb ra : Nat) (ad : List Dig) (ns : List Nn) (r : RefD) (w : World) (hT : FtAt w g rb ra ad ns) (hG : Fu.Good (Fw.els ns)) (hn : ns.length ≤ 400001) : Calls Try.prog 26 #[.pointer (some ⟨g, 0, none⟩), refV r] w (Ret fun v w' => v = .tuple #[.int .i64 (placeV (Fw.els ns) r).1, .bool (placeV (Fw.els ns) r).2] ∧ Ext w w') := by
  have hlv : (seenE (Fw.els ns)).length = liveN ns := hG.seen_length
  have hel : (Fw.els ns).length = ns.length := List.length_map _
  have hsl : ∀ q, q ∈ seenE (Fw.els ns) → q < ns.length := fun q hq => by rw [← hel]; exact seen_lt hG.down hq
  obtain ⟨ir, hir, hzr, hsr⟩ := info_apiRef
  have hli : (seenE (Fw.els ns)).length ≤ 400001 := by
    have := List.countP_le_length (p := fun x : El => !x.gone) (l := Fw.els ns)
    rw [hlv]; rw [List.length_map] at this; exact Nat.le_trans this hn
  refine calls_of_CW 24 [4, 5] [(0, .pointer (some ⟨g, 0, none⟩)), (1, refV r)] Try.func26 rfl rfl rfl (by simp) args2 ?_
  have hE : Ext w w := Chg.refl
  refine CW.seq fun K1 hK1 => ?_
  refine CW.region ?_   -- region 0
  refine WL.box rfl rfl (by decide) fun g3 w1 hx1 hg3 hB3 => ?_   -- t3 := box 49 t1
  have hlt3 := hB3.lt; have hz1 := hx1.size
  have hM3 := hB3.mem; have hz1 := hx1.size; have hE := hE.thenExt hx1
  refine WL.val (Y.assign rfl) (by decide) ?_   -- t4 := assign c(0:i64)
  refine WL.val (Y.assign rfl) (by decide) ?_   -- t5 := assign c(false)
  refine WL.nil ?_
  refine hK1 _ _ ?_; try clear hK1 K1
  refine CW.seq fun K2 hK2 => ?_
  refine CW.seq fun K3 hK3 => ?_
  refine CW.region ?_   -- region 1
  refine WL.val (Y.move rfl) (by decide) ?_   -- t8 := move t0
  refine WL.call Try.func36 rfl rfl rfl (flist_any g rb ra ad ns _ (hT.ext hE) hG hn) (by simp) ?_; rintro v9 w2 hR2   -- t9 := call F36(t8) : 27
  obtain ⟨hO2, hf2, hx2⟩ := hR2
  obtain ⟨A, m, c, rfl⟩ := hO2.lens
  obtain ⟨hlm, hlg⟩ := ptr_map hO2
  have hcc := (hO2.mem A m c rfl).2.2.2
  unfold maxLen at hcc
  have hE := hE.thenExt hx2
  have hB3 := hB3.ext hx2
  refine WL.val (Y.len_slice Try.underlying93 rfl) (by decide) ?_   -- t10 := call len(t9) : 93
  refine WL.val (Y.move rfl) (by decide) ?_   -- t11 := move c(0:i64)
  refine WL.nil ?_
  refine hK3 _ _ ?_; try clear hK3 K3
  refine CW.block ?_   -- block 0
  refine CW.loop (X := Nat) (fun x => [(0, .pointer (some ⟨g, 0, none⟩)), (3, .pointer (some ⟨g3, 0, none⟩)), (9, .slice A m c), (10, .int .i64 (m : Int)), (11, .int .i64 (x : Int))]) (fun x w0 => x ≤ m ∧ (∀ (t p : Nat), t < x → (seenE (Fw.els ns))[t]? = some p → nm (Fw.els ns) p ≠ r) ∧ Ext w2 w0) (fun x => m - x) 0 (by repeat (first | exact Fr.le.nil | refine Fr.le.cons rfl ?_)) ⟨Nat.zero_le _, (fun t p h => by omega), Chg.refl⟩ ?_
  intro x w3 hl3
  obtain ⟨hxm, hno, hL⟩ := hl3
  have hB3 := hB3.ext hL
  have hE := hE.thenExt hL
  refine CW.seq fun K4 hK4 => ?_
  refine CW.region ?_   -- region 2
  refine WL.val (Y.lss rfl rfl) (by decide) ?_   -- t12 := binOp lss 3 t11 t10 3
  refine WL.nil ?_
  refine hK4 _ _ ?_; try clear hK4 K4
  refine CW.seq fun K5 hK5 => ?_
  first | refine CW.condD rfl (fun ht6 => ?_) (fun ht6 => ?_) | refine CW.condND rfl (fun ht6 => ?_) (fun ht6 => ?_) | refine CW.condN rfl (fun ht6 => ?_) (fun ht6 => ?_) | refine CW.cond rfl (fun ht6 => ?_) (fun ht6 => ?_)
  · -- then
    refine CW.skip ?_
    refine hK5 _ _ ?_; try clear hK5 K5
    refine CW.seq fun K7 hK7 => ?_
    refine CW.block ?_   -- block 1
    refine CW.seq fun K8 hK8 => ?_
    obtain ⟨q, hq⟩ : ∃ q, (seenE (Fw.els ns))[x]? = some q := ⟨_, List.getElem?_eq_getElem (by omega)⟩
    obtain ⟨a, rfl, hma⟩ := hlg x q hq
    obtain ⟨z, hz⟩ : ∃ z, ns[q]? = some z := ⟨_, List.getElem?_eq_getElem (hsl q (List.mem_of_getElem? hq))⟩
    have hze : (Fw.els ns)[q]? = some z.el := by rw [List.getElem?_map, hz]; rfl
    have hzb := (hT.node q z hz).ext hE
    rw [gOf_at hz] at hma
    refine CW.region ?_   -- region 3
    refine WL.val (Y.move rfl) (by decide) ?_   -- t13 := move t11
    refine WL.val (Y.indexAddrN Try.underlying93 rfl rfl sz0_fuguenode (by omega)) (by decide) ?_   -- t14 := indexAddr 93 t9 t11
    refine WL.val (Y.load1 Try.underlying87 rfl ((hma.ext hL).cell0) rfl) (by decide) ?_   -- t15 := load 87 t14
    refine WL.val (Y.assign rfl) (by decide) ?_   -- t6 := assign t13
    refine WL.val (Y.assign rfl) (by decide) ?_   -- t7 := assign t15
    refine WL.nil ?_
    refine hK8 _ _ ?_; try clear hK8 K8
    refine CW.seq fun K9 hK9 => ?_
    refine CW.quiet (fun wq => Ext w3 wq) (by kernel_rfl) (by kernel_rfl) Chg.drew ?_
    refine QL.val (fun wq hq => Y.move rfl) (by decide) ?_   -- t16 := move t7
    refine QL.val (fun wq hq => Y.nilCheck rfl) (by decide) ?_   -- t17 := nilCheck t16
    refine QL.val (fun wq hq => Y.fieldAddr fo_fuguenode0 rfl) (by decide) ?_   -- t18 := fieldAddr 96 t17 0
    refine QL.val (fun wq hq => Y.load Try.underlying49 rfl ((hzb.ext hq).mem.fuguenode0) (sz_apiRef _) rfl) (by decide) ?_   -- t19 := load 49 t18
    refine QL.val (fun wq hq => Y.load Try.underlying49 rfl (hB3.ext hq).mem (sz_apiRef _) rfl) (by decide) ?_   -- t20 := load 49 t3
    refine QL.val (fun wq hq => Y.eql_apiRef rfl rfl) (by decide) ?_   -- t21 := binOp eql 49 t19 t20 49
    refine QL.nil fun w4 hx4 => ?_
    have hz4 := hx4.size
    have hE := hE.thenExt hx4
    have hB3 := hB3.ext hx4
    refine hK9 _ _ ?_; try clear hK9 K9
    first | refine CW.condD rfl (fun ht10 => ?_) (fun ht10 => ?_) | refine CW.condND rfl (fun ht10 => ?_) (fun ht10 => ?_) | refine CW.condN rfl (fun ht10 => ?_) (fun ht10 => ?_) | refine CW.cond rfl (fun ht10 => ?_) (fun ht10 => ?_)
    · -- then
      refine CW.seq fun K11 hK11 => ?_
      refine CW.region ?_   -- region 5
      refine WL.val (Y.move rfl) (by decide) ?_   -- t22 := move t6
      refine WL.val (Y.assign rfl) (by decide) ?_   -- t4 := assign t22
      refine WL.val (Y.assign rfl) (by decide) ?_   -- t5 := assign c(true)
      refine WL.nil ?_
      refine hK11 _ _ ?_; try clear hK11 K11
      refine CW.ret ⟨_, rfl, ?_⟩
      exact ⟨by rw [place_some hq (by rw [nm_at hze]; assumption) hno], hE⟩
    -- else
    refine CW.skip ?_
    refine hK7 _ _ ?_; try clear hK7 K7
    refine CW.region ?_   -- region 6
    refine WL.val (Y.add rfl rfl ⟨by omega, by omega⟩) (by decide) ?_   -- t23 := binOp add 3 t11 c(1:i64) 3
    refine WL.val (Y.move rfl) (by decide) ?_   -- t11 := move t23
    refine WL.nil ?_
    exact ⟨x + 1, (by show m - (x + 1) < m - x; omega), (by repeat (first | exact Fr.le.nil | refine Fr.le.cons rfl ?_)), (by show x + 1 ≤ m; omega), (fun t p ht hp => by
      by_cases e : t = x
      · subst e; rw [hq] at hp; cases hp; rw [nm_at hze]; assumption
      · exact hno t p (by omega) hp), hL.thenExt hx4⟩
  -- else
  refine CW.exit ?_   -- exit 0
  refine hK2 _ _ ?_; try clear hK2 K2
  refine CW.seq fun K12 hK12 => ?_
  refine CW.region ?_   -- region 7
  refine WL.val (Y.assign rfl) (by decide) ?_   -- t4 := assign c(0:i64)
  refine WL.val (Y.assign rfl) (by decide) ?_   -- t5 := assign c(false)
  refine WL.nil ?_
  refine hK12 _ _ ?_; try clear hK12 K12
  refine CW.ret ⟨_, rfl, ?_⟩
  exact ⟨by rw [place_none (fun t p ht hp => hno t p (by omega) hp)], hE⟩
set_option maxHeartbeats 1000000 in
theorem fgap_any (g rb ra : Nat) (ad : List Dig) (ns : List Nn) (n : Int) (w : World) (hT : FtAt w g rb ra ad ns) (hG : Fu.Good (Fw.els ns)) (hn : ns.length ≤ 400001) : Calls Try.prog 34 #[.pointer (some ⟨g, 0, none⟩), .int .i64 n] w (Ret fun v w' => v = .tuple #[refV (gapE (Fw.els ns) n).1, .bool (gapE (Fw.els ns) n).2.1, .bool (gapE (Fw.els ns) n).2.2] ∧ Ext w w') := by
  have hlv : (seenE (Fw.els ns)).length = liveN ns := hG.seen_length
  have hel : (Fw.els ns).length = ns.length := List.length_map _
  have hsl : ∀ q, q ∈ seenE (Fw.els ns) → q < ns.length := fun q hq => by rw [← hel]; exact seen_lt hG.down hq
  obtain ⟨ir, hir, hzr, hsr⟩ := info_apiRef
  have hli : (seenE (Fw.els ns)).length ≤ 400001 := by
    have := List.countP_le_length (p := fun x : El => !x.gone) (l := Fw.els ns)
    rw [hlv]; rw [List.length_map] at this; exact Nat.le_trans this hn
  refine calls_of_CWct 69 4 34 [5, 6] [(0, .pointer (some ⟨g, 0, none⟩)), (1, .int .i64 n)] Try.func34 rfl rfl rfl Try.underlying49 rfl (by kernel_rfl) (by simp) args2 ?_
  have hE : Ext w w := Chg.refl
  refine CW.seq fun K1 hK1 => ?_
  refine CW.region ?_   -- region 0
  refine WL.alloc (hir) (hzr) rfl (by decide) fun g4 w1 hx1 hg4 hB4 => ?_   -- t4 := alloc 49
  have hlt4 := hB4.lt; have hz1 := hx1.size
  have hM4 := hB4.mem; have hz1 := hx1.size; have hE := hE.thenExt hx1
  refine WL.val (Y.assign rfl) (by decide) ?_   -- t5 := assign c(false)
  refine WL.val (Y.assign rfl) (by decide) ?_   -- t6 := assign c(false)
  refine WL.nil ?_
  refine hK1 _ _ ?_; try clear hK1 K1
  refine CW.seq fun K2 hK2 => ?_
  refine CW.seq_testE 23 (n < 0 ∨ (liveN ns : Int) < n) ?_ ?_
  · refine CW.region ?_
    refine WL.val (Y.move rfl) (by decide) ?_   -- t9 := move t0
    refine WL.call Try.func35 rfl rfl rfl (fmade_any g rb ra ad ns _ (hT.ext hE)) (by simp) ?_; rintro v w2 ⟨rfl, hx2⟩; have hz2 := hx2.size; have hE := hE.thenExt hx2; have hB4 := hB4.ext hx2   -- t10 := call F35(t9) : 27
    refine WL.val (Y.not rfl) (by decide) ?_   -- t11 := unOp not 4 t10
    refine WL.val (Y.move rfl) (by decide) ?_   -- t12 := move t11
    first | refine WL.casesD (d := 12) rfl (fun hg12 => ?_) (fun hg12 => ?_) | refine WL.casesND (d := 12) rfl (fun hg12 => ?_) (fun hg12 => ?_) | refine WL.cases (d := 12) rfl (fun hg12 => ?_) (fun hg12 => ?_)
    · -- t12 = T
      refine WL.goff rfl rfl (by decide) ?_   -- t13 := move t1 [if 3=false]
      refine WL.goff rfl rfl (by decide) ?_   -- t14 := binOp lss 3 t13 c(0:i64) 3 [if 3=false]
      refine WL.val (Y.pick rfl rfl) (by decide) ?_   -- t15 := pick t12 c(true) t14
      refine WL.val (Y.move rfl) (by decide) ?_   -- t16 := move t15
      refine WL.goff rfl rfl (by decide) ?_   -- t17 := move t1 [if 7=false]
      refine WL.goff rfl rfl (by decide) ?_   -- t18 := move t0 [if 7=false]
      refine WL.goff rfl rfl (by decide) ?_   -- t19 := nilCheck t18 [if 7=false]
      refine WL.goff rfl rfl (by decide) ?_   -- t20 := fieldAddr 91 t19 3 [if 7=false]
      refine WL.goff rfl rfl (by decide) ?_   -- t21 := load 3 t20 [if 7=false]
      refine WL.goff rfl rfl (by decide) ?_   -- t22 := binOp gtr 3 t17 t21 3 [if 7=false]
      refine WL.val (Y.pick rfl rfl) (by decide) ?_   -- t23 := pick t16 c(true) t22
      refine WL.nil ⟨⟨_, rfl, ?_⟩, hx2, (by repeat (first | exact Fr.le.refl | refine Fr.le.push rfl ?_))⟩
      first | (simp only [*, Int.natCast_inj, Bool.not_eq_true', decide_eq_false_iff_not, decide_eq_true_eq, not_true_eq_false, not_false_eq_true, true_and, false_and, and_true, and_false, false_or, or_false, true_or, or_true, iff_true, true_iff, iff_false, false_iff]; done) | (simp_all; done) | (refine congrArg Value.bool (Bool.eq_iff_iff.2 ?_); simp_all; done) | (simp_all; omega)
    · -- t12 = F
      refine WL.gval rfl rfl (Y.move rfl) (by decide) ?_   -- t13 := move t1 [if 3=false]
      refine WL.gval rfl rfl (Y.lss rfl rfl) (by decide) ?_   -- t14 := binOp lss 3 t13 c(0:i64) 3 [if 3=false]
      refine WL.val (Y.pick rfl rfl) (by decide) ?_   -- t15 := pick t12 c(true) t14
      refine WL.val (Y.move rfl) (by decide) ?_   -- t16 := move t15
      first | refine WL.casesD (d := 16) rfl (fun hg16 => ?_) (fun hg16 => ?_) | refine WL.casesND (d := 16) rfl (fun hg16 => ?_) (fun hg16 => ?_) | refine WL.cases (d := 16) rfl (fun hg16 => ?_) (fun hg16 => ?_)
      · -- t16 = T
        refine WL.goff rfl rfl (by decide) ?_   -- t17 := move t1 [if 7=false]
        refine WL.goff rfl rfl (by decide) ?_   -- t18 := move t0 [if 7=false]
        refine WL.goff rfl rfl (by decide) ?_   -- t19 := nilCheck t18 [if 7=false]
        refine WL.goff rfl rfl (by decide) ?_   -- t20 := fieldAddr 91 t19 3 [if 7=false]
        refine WL.goff rfl rfl (by decide) ?_   -- t21 := load 3 t20 [if 7=false]
        refine WL.goff rfl rfl (by decide) ?_   -- t22 := binOp gtr 3 t17 t21 3 [if 7=false]
        refine WL.val (Y.pick rfl rfl) (by decide) ?_   -- t23 := pick t16 c(true) t22
        refine WL.nil ⟨⟨_, rfl, ?_⟩, hx2, (by repeat (first | exact Fr.le.refl | refine Fr.le.push rfl ?_))⟩
        first | (simp only [*, Int.natCast_inj, Bool.not_eq_true', decide_eq_false_iff_not, decide_eq_true_eq, not_true_eq_false, not_false_eq_true, true_and, false_and, and_true, and_false, false_or, or_false, true_or, or_true, iff_true, true_iff, iff_false, false_iff]; done) | (simp_all; done) | (refine congrArg Value.bool (Bool.eq_iff_iff.2 ?_); simp_all; done) | (simp_all; omega)
      · -- t16 = F
        refine WL.gval rfl rfl (Y.move rfl) (by decide) ?_   -- t17 := move t1 [if 7=false]
        refine WL.gval rfl rfl (Y.move rfl) (by decide) ?_   -- t18 := move t0 [if 7=false]
        refine WL.gval rfl rfl (Y.nilCheck rfl) (by decide) ?_   -- t19 := nilCheck t18 [if 7=false]
        refine WL.gval rfl rfl (Y.fieldAddr fo_fugueTree3 rfl) (by decide) ?_   -- t20 := fieldAddr 91 t19 3 [if 7=false]
        refine WL.gval rfl rfl (Y.load1 Try.underlying3 rfl ((hT.ext hE).blk.mem.fugueTree3) rfl) (by decide) ?_   -- t21 := load 3 t20 [if 7=false]
        refine WL.gval rfl rfl (Y.gtr rfl rfl) (by decide) ?_   -- t22 := binOp gtr 3 t17 t21 3 [if 7=false]
        refine WL.val (Y.pick rfl rfl) (by decide) ?_   -- t23 := pick t16 c(true) t22
        refine WL.nil ⟨⟨_, rfl, ?_⟩, hx2, (by repeat (first | exact Fr.le.refl | refine Fr.le.push rfl ?_))⟩
        first | (simp only [*, Int.natCast_inj, Bool.not_eq_true', decide_eq_false_iff_not, decide_eq_true_eq, not_true_eq_false, not_false_eq_true, true_and, false_and, and_true, and_false, false_or, or_false, true_or, or_true, iff_true, true_iff, iff_false, false_iff]; done) | (simp_all; done) | (refine congrArg Value.bool (Bool.eq_iff_iff.2 ?_); simp_all; done) | (simp_all; omega)
  intro w3 hx3; have hz3 := hx3.size; have hE := hE.thenExt hx3; have hB4 := hB4.ext hx3
  first | refine CW.condD rfl (fun ht3 => ?_) (fun ht3 => ?_) | refine CW.condND rfl (fun ht3 => ?_) (fun ht3 => ?_) | refine CW.condN rfl (fun ht3 => ?_) (fun ht3 => ?_) | refine CW.cond rfl (fun ht3 => ?_) (fun ht3 => ?_)
  · -- then
    refine CW.seq fun K4 hK4 => ?_
    refine CW.region ?_   -- region 2
    refine WL.val (Y.build0 (build_apiRef _)) (by decide) ?_   -- t24 := build 49 []
    refine WL.store (g := g4) (pre := []) (old := refC RefD.zero) (post := []) (new := refC RefD.zero) rfl rfl rfl rfl (sz_apiRef _) (by simpa using hB4) (by simp only [refC_length]) (one_refC) (fun w4 hc4 hB4_ => ?_)   -- _ := store 49 t4 t24
    have hz4 := hc4.size; have hE := hE.step hc4 (fun k h => by omega)
    have hB4 : Blk w4 g4 49 (refC RefD.zero) := by simpa using hB4_
    refine WL.val (Y.assign rfl) (by decide) ?_   -- t5 := assign c(false)
    refine WL.val (Y.assign rfl) (by decide) ?_   -- t6 := assign c(false)
    refine WL.nil ?_
    refine hK4 _ _ ?_; try clear hK4 K4
    refine CW.ret ?_
    exact ⟨_, _, _, rfl, hB4.mem, refC_length _, rfl, ⟨by rw [gapE, if_pos (by rw [hlv]; assumption)], hE⟩⟩
  -- else
  refine CW.skip ?_
  refine hK2 _ _ ?_; try clear hK2 K2
  refine CW.seq fun K5 hK5 => ?_
  refine CW.region ?_   -- region 3
  refine WL.val (Y.move rfl) (by decide) ?_   -- t25 := move t0
  refine WL.val (Y.nilCheck rfl) (by decide) ?_   -- t26 := nilCheck t25
  refine WL.val (Y.fieldAddr fo_fugueTree0 rfl) (by decide) ?_   -- t27 := fieldAddr 91 t26 0
  refine WL.val (Y.load1 Try.underlying87 rfl ((hT.ext hE).blk.mem.fugueTree0) rfl) (by decide) ?_   -- t28 := load 87 t27
  refine WL.val (Y.assign rfl) (by decide) ?_   -- t7 := assign t28
  refine WL.nil ?_
  refine hK5 _ _ ?_; try clear hK5 K5
  refine CW.seq_to (X := Unit) (fun _ => [(0, .pointer (some ⟨g, 0, none⟩)), (1, .int .i64 n), (4, .pointer (some ⟨g4, 0, none⟩)), (7, .pointer (some ⟨gOf ns (gapI (Fw.els ns) n), 0, none⟩))]) (fun _ w0 => Ext w w0 ∧ Blk w0 g4 49 (refC RefD.zero)) ?_ ?_
  · skip
    refine CW.seq fun K7 hK7 => ?_
    refine CW.region ?_   -- region 4
    refine WL.val (Y.move rfl) (by decide) ?_   -- t29 := move t1
    refine WL.val (Y.gtr rfl rfl) (by decide) ?_   -- t30 := binOp gtr 3 t29 c(0:i64) 3
    refine WL.nil ?_
    refine hK7 _ _ ?_; try clear hK7 K7
    first | refine CW.condD rfl (fun ht8 => ?_) (fun ht8 => ?_) | refine CW.condND rfl (fun ht8 => ?_) (fun ht8 => ?_) | refine CW.condN rfl (fun ht8 => ?_) (fun ht8 => ?_) | refine CW.cond rfl (fun ht8 => ?_) (fun ht8 => ?_)
    · -- then
      refine CW.region ?_   -- region 5
      refine WL.val (Y.move rfl) (by decide) ?_   -- t31 := move t0
      refine WL.call Try.func36 rfl rfl rfl (flist_any g rb ra ad ns _ (hT.ext hE) hG hn) (by simp) ?_; rintro v32 w5 hR5   -- t32 := call F36(t31) : 27
      obtain ⟨hO5, hf5, hx5⟩ := hR5
      obtain ⟨A, m, c, rfl⟩ := hO5.lens
      obtain ⟨hlm, hlg⟩ := ptr_map hO5
      have hcc := (hO5.mem A m c rfl).2.2.2
      unfold maxLen at hcc
      have hE := hE.thenExt hx5
      have hB4 := hB4.ext hx5
      obtain ⟨i, rfl⟩ : ∃ i : Nat, n = (i : Int) + 1 := ⟨(n - 1).toNat, by omega⟩
      obtain ⟨q, hq⟩ : ∃ q, (seenE (Fw.els ns))[i]? = some q := ⟨_, List.getElem?_eq_getElem (by omega)⟩
      obtain ⟨a, rfl, hma⟩ := hlg i q hq
      obtain ⟨z, hz⟩ : ∃ z, ns[q]? = some z := ⟨_, List.getElem?_eq_getElem (hsl q (List.mem_of_getElem? hq))⟩
      have hze : (Fw.els ns)[q]? = some z.el := by rw [List.getElem?_map, hz]; rfl
      have hzb := (hT.node q z hz).ext hE
      rw [gOf_at hz] at hma
      have hgi : gapI (Fw.els ns) ((i : Int) + 1) = q := by rw [gapI, if_neg (by omega), show ((i : Int) + 1 - 1).toNat = i by omega, hq]; rfl
      refine WL.val (Y.move rfl) (by decide) ?_   -- t33 := move t1
      refine WL.val (Y.sub rfl rfl ⟨by omega, by omega⟩) (by decide) ?_   -- t34 := binOp sub 3 t33 c(1:i64) 3
      rw [show ((i : Int) + 1 - 1) = (i : Int) by omega]
      refine WL.val (Y.indexAddrN Try.underlying93 rfl rfl sz0_fuguenode (by omega)) (by decide) ?_   -- t35 := indexAddr 93 t32 t34
      refine WL.val (Y.load1 Try.underlying87 rfl (hma.cell0) rfl) (by decide) ?_   -- t36 := load 87 t35
      refine WL.val (Y.assign rfl) (by decide) ?_   -- t7 := assign t36
      refine WL.nil ?_
      exact ⟨(), (by rw [hgi, gOf_at hz]; exact (by repeat (first | exact Fr.le.nil | refine Fr.le.cons rfl ?_))), hE, hB4⟩
    -- else
    refine CW.skip ?_
    have hn0 : n = 0 := by omega
    subst hn0
    exact ⟨(), (by repeat (first | exact Fr.le.nil | refine Fr.le.cons rfl ?_)), hE, hB4⟩
  rintro u w6 hj6
  obtain ⟨hE, hB4⟩ := hj6
  have hgl := gapI_lt hG (n := n) (by omega) (by rw [hlv]; omega)
  rw [hel] at hgl
  obtain ⟨⟨xe, gx, lv, rv⟩, hz⟩ : ∃ z, ns[gapI (Fw.els ns) n]? = some z := ⟨_, List.getElem?_eq_getElem hgl⟩
  have hze : (Fw.els ns)[gapI (Fw.els ns) n]? = some xe := by rw [List.getElem?_map, hz]; rfl
  have hzb0 : Blk w gx TN (nodeC xe lv rv) := hT.node _ _ hz
  have hzb := hzb0.ext hE
  have hkr : Own w TP 1 rv (ptrL (xe.right.map (gOf ns))) := hT.kids _ _ false hz
  obtain ⟨A2, m2, c2, rfl⟩ := hkr.lens
  obtain ⟨hrm, hrg⟩ := ptr_map hkr
  have hge : gapE (Fw.els ns) n = ((gapAt (Fw.els ns) (gapI (Fw.els ns) n)).1, (gapAt (Fw.els ns) (gapI (Fw.els ns) n)).2, true) := by rw [gapE, if_neg (by rw [hlv]; assumption)]
  rw [gOf_at hz]
  refine CW.seq fun K9 hK9 => ?_
  refine CW.seq fun K10 hK10 => ?_
  refine CW.region ?_   -- region 6
  refine WL.val (Y.move rfl) (by decide) ?_   -- t37 := move t7
  refine WL.val (Y.nilCheck rfl) (by decide) ?_   -- t38 := nilCheck t37
  refine WL.val (Y.fieldAddr fo_fuguenode4 rfl) (by decide) ?_   -- t39 := fieldAddr 96 t38 4
  refine WL.val (Y.load1 Try.underlying93 rfl hzb.mem.fuguenode4 rfl) (by decide) ?_   -- t40 := load 93 t39
  refine WL.val (Y.len_slice Try.underlying93 rfl) (by decide) ?_   -- t41 := call len(t40) : 93
  refine WL.val (Y.eql rfl rfl) (by decide) ?_   -- t42 := binOp eql 3 t41 c(0:i64) 3
  refine WL.nil ?_
  refine hK10 _ _ ?_; try clear hK10 K10
  first | refine CW.condD rfl (fun ht11 => ?_) (fun ht11 => ?_) | refine CW.condND rfl (fun ht11 => ?_) (fun ht11 => ?_) | refine CW.condN rfl (fun ht11 => ?_) (fun ht11 => ?_) | refine CW.cond rfl (fun ht11 => ?_) (fun ht11 => ?_)
  · -- then
    refine CW.seq fun K12 hK12 => ?_
    refine CW.region ?_   -- region 7
    refine WL.val (Y.move rfl) (by decide) ?_   -- t43 := move t7
    refine WL.val (Y.nilCheck rfl) (by decide) ?_   -- t44 := nilCheck t43
    refine WL.val (Y.fieldAddr fo_fuguenode0 rfl) (by decide) ?_   -- t45 := fieldAddr 96 t44 0
    refine WL.val (Y.load Try.underlying49 rfl hzb.mem.fuguenode0 (sz_apiRef _) rfl) (by decide) ?_   -- t46 := load 49 t45
    refine WL.store (g := g4) (pre := []) (old := refC RefD.zero) (post := []) (new := refC xe.name) rfl rfl rfl rfl (sz_apiRef _) (by simpa using hB4) (by simp only [refC_length]) (one_refC) (fun w7 hc7 hB7_ => ?_)   -- _ := store 49 t4 t46
    have hz7 := hc7.size; have hE := hE.step hc7 (fun k h => by omega)
    have hB4 : Blk w7 g4 49 (refC xe.name) := by simpa using hB7_
    refine WL.val (Y.assign rfl) (by decide) ?_   -- t5 := assign c(false)
    refine WL.val (Y.assign rfl) (by decide) ?_   -- t6 := assign c(true)
    refine WL.nil ?_
    refine hK12 _ _ ?_; try clear hK12 K12
    refine CW.ret ?_
    have hr0 : xe.right = [] := List.length_eq_zero_iff.1 (by omega)
    have hga : gapAt (Fw.els ns) (gapI (Fw.els ns) n) = (xe.name, false) := by rw [gapAt, hze]; simp only [Option.map_some, Option.getD_some, hr0]; rw [nm_at hze]
    exact ⟨_, _, _, rfl, hB4.mem, refC_length _, rfl, ⟨by rw [hge, hga], hE⟩⟩
  -- else
  refine CW.skip ?_
  refine hK9 _ _ ?_; try clear hK9 K9
  refine CW.seq fun K13 hK13 => ?_
  obtain ⟨c0, r0, hrc⟩ : ∃ c r, xe.right = c :: r := by
    cases hr : xe.right with
    | nil => rw [hr] at hrm; simp at hrm; omega
    | cons c r => exact ⟨c, r, rfl⟩
  obtain ⟨a2, rfl, hma2⟩ := hrg 0 c0 (by rw [hrc]; rfl)
  have hc0 := hG.down _ _ hze c0 (.inr (by rw [hrc]; simp))
  rw [hel] at hc0
  have hga : gapAt (Fw.els ns) (gapI (Fw.els ns) n) = (nm (Fw.els ns) (lmE (Fw.els ns) c0), true) := by rw [gapAt, hze]; simp only [Option.map_some, Option.getD_some, hrc]
  refine CW.region ?_   -- region 8
  refine WL.val (Y.move rfl) (by decide) ?_   -- t47 := move t7
  refine WL.val (Y.nilCheck rfl) (by decide) ?_   -- t48 := nilCheck t47
  refine WL.val (Y.fieldAddr fo_fuguenode4 rfl) (by decide) ?_   -- t49 := fieldAddr 96 t48 4
  refine WL.val (Y.load1 Try.underlying93 rfl hzb.mem.fuguenode4 rfl) (by decide) ?_   -- t50 := load 93 t49
  refine WL.val (Y.indexAddrN (i := 0) Try.underlying93 rfl rfl sz0_fuguenode (by omega)) (by decide) ?_   -- t51 := indexAddr 93 t50 c(0:i64)
  refine WL.val (Y.load1 Try.underlying87 rfl ((hma2.ext hE).cell0) rfl) (by decide) ?_   -- t52 := load 87 t51
  refine WL.val (Y.assign rfl) (by decide) ?_   -- t8 := assign t52
  refine WL.nil ?_
  refine hK13 _ _ ?_; try clear hK13 K13
  refine CW.seq fun K14 hK14 => ?_
  refine CW.block ?_   -- block 0
  refine CW.loop (X := Nat) (fun x => [(0, .pointer (some ⟨g, 0, none⟩)), (1, .int .i64 n), (4, .pointer (some ⟨g4, 0, none⟩)), (8, .pointer (some ⟨gOf ns x, 0, none⟩))]) (fun x w0 => x < ns.length ∧ lmE (Fw.els ns) x = lmE (Fw.els ns) c0 ∧ Ext w w0 ∧ Blk w0 g4 49 (refC RefD.zero)) (fun x => ns.length - x) c0 (by repeat (first | exact Fr.le.nil | refine Fr.le.cons rfl ?_)) ⟨hc0.2, rfl, hE, hB4⟩ ?_
  intro x w8 hl8
  obtain ⟨hxl, hlme, hE, hB4⟩ := hl8
  obtain ⟨⟨xl, gl, lv2, rv2⟩, hz2⟩ : ∃ z, ns[x]? = some z := ⟨_, List.getElem?_eq_getElem hxl⟩
  have hzl : (Fw.els ns)[x]? = some xl := by rw [List.getElem?_map, hz2]; rfl
  have hzb2 : Blk w gl TN (nodeC xl lv2 rv2) := hT.node _ _ hz2
  have hzb := hzb2.ext hE
  have hkl : Own w TP 1 lv2 (ptrL (xl.left.map (gOf ns))) := hT.kids _ _ true hz2
  obtain ⟨A3, m3, c3, rfl⟩ := hkl.lens
  obtain ⟨hlm, hlg⟩ := ptr_map hkl
  rw [gOf_at hz2]
  refine CW.seq fun K15 hK15 => ?_
  refine CW.seq fun K16 hK16 => ?_
  refine CW.region ?_   -- region 9
  refine WL.val (Y.move rfl) (by decide) ?_   -- t53 := move t8
  refine WL.val (Y.nilCheck rfl) (by decide) ?_   -- t54 := nilCheck t53
  refine WL.val (Y.fieldAddr fo_fuguenode3 rfl) (by decide) ?_   -- t55 := fieldAddr 96 t54 3
  refine WL.val (Y.load1 Try.underlying93 rfl hzb.mem.fuguenode3 rfl) (by decide) ?_   -- t56 := load 93 t55
  refine WL.val (Y.len_slice Try.underlying93 rfl) (by decide) ?_   -- t57 := call len(t56) : 93
  refine WL.val (Y.gtr rfl rfl) (by decide) ?_   -- t58 := binOp gtr 3 t57 c(0:i64) 3
  refine WL.nil ?_
  refine hK16 _ _ ?_; try clear hK16 K16
  first | refine CW.condD rfl (fun ht17 => ?_) (fun ht17 => ?_) | refine CW.condND rfl (fun ht17 => ?_) (fun ht17 => ?_) | refine CW.condN rfl (fun ht17 => ?_) (fun ht17 => ?_) | refine CW.cond rfl (fun ht17 => ?_) (fun ht17 => ?_)
  · -- then
    refine CW.skip ?_
    refine hK15 _ _ ?_; try clear hK15 K15
    refine CW.block ?_   -- block 1
    obtain ⟨c1, r1, hlc⟩ : ∃ c r, xl.left = c :: r := by
      cases hr : xl.left with
      | nil => rw [hr] at hlm; simp at hlm; omega
      | cons c r => exact ⟨c, r, rfl⟩
    obtain ⟨a3, rfl, hma3⟩ := hlg 0 c1 (by rw [hlc]; rfl)
    have hc1 := hG.down _ _ hzl c1 (.inl (by rw [hlc]; simp))
    rw [hel] at hc1
    refine CW.region ?_   -- region 10
    refine WL.val (Y.move rfl) (by decide) ?_   -- t59 := move t8
    refine WL.val (Y.nilCheck rfl) (by decide) ?_   -- t60 := nilCheck t59
    refine WL.val (Y.fieldAddr fo_fuguenode3 rfl) (by decide) ?_   -- t61 := fieldAddr 96 t60 3
    refine WL.val (Y.load1 Try.underlying93 rfl hzb.mem.fuguenode3 rfl) (by decide) ?_   -- t62 := load 93 t61
    refine WL.val (Y.indexAddrN (i := 0) Try.underlying93 rfl rfl sz0_fuguenode (by omega)) (by decide) ?_   -- t63 := indexAddr 93 t62 c(0:i64)
    refine WL.val (Y.load1 Try.underlying87 rfl ((hma3.ext hE).cell0) rfl) (by decide) ?_   -- t64 := load 87 t63
    refine WL.val (Y.assign rfl) (by decide) ?_   -- t8 := assign t64
    refine WL.nil ?_
    exact ⟨c1, (by show ns.length - c1 < ns.length - x; omega), (by repeat (first | exact Fr.le.nil | refine Fr.le.cons rfl ?_)), hc1.2, (by rw [← hlme, lm_eq hG.down hzl, hlc]), hE, hB4⟩
  -- else
  refine CW.exit ?_   -- exit 0
  refine hK14 _ _ ?_; try clear hK14 K14
  refine CW.seq fun K18 hK18 => ?_
  refine CW.region ?_   -- region 11
  refine WL.val (Y.move rfl) (by decide) ?_   -- t65 := move t8
  refine WL.val (Y.nilCheck rfl) (by decide) ?_   -- t66 := nilCheck t65
  refine WL.val (Y.fieldAddr fo_fuguenode0 rfl) (by decide) ?_   -- t67 := fieldAddr 96 t66 0
  refine WL.val (Y.load Try.underlying49 rfl hzb.mem.fuguenode0 (sz_apiRef _) rfl) (by decide) ?_   -- t68 := load 49 t67
  refine WL.store (g := g4) (pre := []) (old := refC RefD.zero) (post := []) (new := refC xl.name) rfl rfl rfl rfl (sz_apiRef _) (by simpa using hB4) (by simp only [refC_length]) (one_refC) (fun w9 hc9 hB9_ => ?_)   -- _ := store 49 t4 t68
  have hz9 := hc9.size; have hE := hE.step hc9 (fun k h => by omega)
  have hB4 : Blk w9 g4 49 (refC xl.name) := by simpa using hB9_
  refine WL.val (Y.assign rfl) (by decide) ?_   -- t5 := assign c(true)
  refine WL.val (Y.assign rfl) (by decide) ?_   -- t6 := assign c(true)
  refine WL.nil ?_
  refine hK18 _ _ ?_; try clear hK18 K18
  refine CW.ret ?_
  have hl0 : xl.left = [] := List.length_eq_zero_iff.1 (by omega)
  have hlx : lmE (Fw.els ns) c0 = x := by rw [← hlme, lm_eq hG.down hzl, hl0]
  exact ⟨_, _, _, rfl, hB4.mem, refC_length _, rfl, ⟨by rw [hge, hga, hlx, nm_at hzl], hE⟩⟩
end Go.Proofs.Ytffkmlkdlhkkmaa
