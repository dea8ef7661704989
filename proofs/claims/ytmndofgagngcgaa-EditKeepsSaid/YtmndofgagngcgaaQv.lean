/- Fugue's tree: Text, Ref, Place, Gap, walked. No condition. -/
import Derived.Test.YtmndofgagngcgaaQt
set_option linter.unusedSimpArgs false
set_option linter.unusedVariables false
namespace Go.Proofs.Ytmndofgagngcgaa
open Go.RowKit Go.Fw Go.Fu Go.Pl
theorem gapI_lt {e : List El} (hG : Fu.Good e) {n : Int} (h0 : 0 ≤ n) (h1 : n ≤ ((seenE e).length : Int)) : gapI e n < e.length := by
  unfold gapI
  by_cases h : n = 0
  · rw [if_pos h]; exact hG.pos
  · rw [if_neg h]
    obtain ⟨q, hq⟩ : ∃ q, (seenE e)[(n - 1).toNat]? = some q := ⟨_, List.getElem?_eq_getElem (by omega)⟩
    rw [hq]; exact seen_lt hG.down (List.mem_of_getElem? hq)
def placeV (e : List El) (r : RefD) : Int × Bool := match placeE e r with
  | some i => ((i : Int), true)
  | none => (0, false)
theorem place_some {e : List El} {r : RefD} {i q : Nat} (h : (seenE e)[i]? = some q) (hn : nm e q = r) (hb : ∀ (t p : Nat), t < i → (seenE e)[t]? = some p → nm e p ≠ r) : placeV e r = ((i : Int), true) := by
  have : placeE e r = some i := by
    rw [placeE, List.findIdx?_eq_some_iff_getElem]
    obtain ⟨hl, rfl⟩ := List.getElem?_eq_some_iff.1 h
    exact ⟨hl, decide_eq_true hn, fun j hj => by have := hb j _ hj (List.getElem?_eq_getElem (by omega)); simpa using this⟩
  rw [placeV, this]
theorem place_none {e : List El} {r : RefD} (hb : ∀ (t p : Nat), t < (seenE e).length → (seenE e)[t]? = some p → nm e p ≠ r) : placeV e r = (0, false) := by
  have : placeE e r = none := by
    rw [placeE, List.findIdx?_eq_none_iff]
    intro p hp
    obtain ⟨t, ht⟩ := List.mem_iff_getElem?.1 hp
    have := hb t p (List.getElem?_eq_some_iff.1 ht).1 ht
    simpa using this
  rw [placeV, this]

theorem ftext_any (g rb ra : Nat) (ad : List Dig) (ns : List Nn) (w : World) (hT : FtAt w g rb ra ad ns) (hG : Fu.Good (Fw.els ns)) (hn : ns.length ≤ 400001) : Calls Try.prog 14 #[.pointer (some ⟨g, 0, none⟩)] w (Ret fun v w' => v = .string (bs (textE (Fw.els ns))) ∧ Ext w w') := by
  have hlv : (seenE (Fw.els ns)).length = liveN ns := hG.seen_length
  have hel : (Fw.els ns).length = ns.length := List.length_map _
  have hsl : ∀ q, q ∈ seenE (Fw.els ns) → q < ns.length := fun q hq => by rw [← hel]; exact seen_lt hG.down hq
  obtain ⟨ir, hir, hzr, hsr⟩ := info_apiRef
  have hli : (seenE (Fw.els ns)).length ≤ 400001 := by
    have := List.countP_le_length (p := fun x : El => !x.gone) (l := Fw.els ns)
    rw [hlv]; rw [List.length_map] at this; exact Nat.le_trans this hn
  refine calls_of_CW 23 [2] [(0, .pointer (some ⟨g, 0, none⟩))] Try.func14 rfl rfl rfl (by simp) args1 ?_
  have hE : Ext w w := Chg.refl
  refine CW.seq fun K1 hK1 => ?_
  refine CW.region ?_
  refine WL.val (Y.assign rfl) (by decide) ?_
  refine WL.nil ?_
  refine hK1 _ _ ?_; try clear hK1 K1
  refine CW.seq fun K2 hK2 => ?_
  refine CW.region ?_
  refine WL.val (Y.assign rfl) (by decide) ?_
  refine WL.nil ?_
  refine hK2 _ _ ?_; try clear hK2 K2
  refine CW.seq fun K3 hK3 => ?_
  refine CW.seq fun K4 hK4 => ?_
  refine CW.region ?_
  refine WL.val (Y.move rfl) (by decide) ?_
  refine WL.call Try.func36 rfl rfl rfl (flist_any g rb ra ad ns _ hT hG hn) (by simp) ?_; rintro v7 w1 hR1
  obtain ⟨hO1, hf1, hx1⟩ := hR1
  obtain ⟨A, m, c, rfl⟩ := hO1.lens
  obtain ⟨hlm, hlg⟩ := ptr_map hO1
  have hcc := (hO1.mem A m c rfl).2.2.2
  unfold maxLen at hcc
  have hE := hE.thenExt hx1
  refine WL.val (Y.len_slice Try.underlying97 rfl) (by decide) ?_
  refine WL.val (Y.move rfl) (by decide) ?_
  refine WL.nil ?_
  refine hK4 _ _ ?_; try clear hK4 K4
  refine CW.block ?_
  refine CW.loop (X := Nat × Value) (fun x => [(0, .pointer (some ⟨g, 0, none⟩)), (3, x.2), (7, .slice A m c), (8, .int .i64 (m : Int)), (9, .int .i64 (x.1 : Int))]) (fun x w0 => x.1 ≤ m ∧ Own w0 5 1 x.2 (bytesC (((seenE (Fw.els ns)).take x.1).map (byteAt (Fw.els ns)))) ∧ Own w0 TP 1 (.slice A m c) (ptrL ((seenE (Fw.els ns)).map (gOf ns))) ∧ (∀ k, x.2.ownBlock = some k → w.heap.size ≤ k) ∧ Ext w w0) (fun x => m - x.1) (0, .slice none 0 0) (by repeat (first | exact Fr.le.nil | refine Fr.le.cons rfl ?_)) ⟨Nat.zero_le _, Own.nil, hO1, (fun k hk => by simp [Value.ownBlock] at hk), hE⟩ ?_
  intro x w2 hl2
  obtain ⟨k, bv⟩ := x
  dsimp only at hl2 ⊢
  obtain ⟨hkm, hOb, hOl, hfb, hE⟩ := hl2
  obtain ⟨hlm, hlg⟩ := ptr_map hOl
  refine CW.seq fun K5 hK5 => ?_
  refine CW.region ?_
  refine WL.val (Y.lss rfl rfl) (by decide) ?_
  refine WL.nil ?_
  refine hK5 _ _ ?_; try clear hK5 K5
  refine CW.seq fun K6 hK6 => ?_
  first | refine CW.condD rfl (fun ht7 => ?_) (fun ht7 => ?_) | refine CW.condND rfl (fun ht7 => ?_) (fun ht7 => ?_) | refine CW.condN rfl (fun ht7 => ?_) (fun ht7 => ?_) | refine CW.cond rfl (fun ht7 => ?_) (fun ht7 => ?_)
  · -- then
    refine CW.skip ?_
    refine hK6 _ _ ?_; try clear hK6 K6
    refine CW.seq fun K8 hK8 => ?_
    refine CW.block ?_
    refine CW.seq fun K9 hK9 => ?_
    obtain ⟨q, hq⟩ : ∃ q, (seenE (Fw.els ns))[k]? = some q := ⟨_, List.getElem?_eq_getElem (by omega)⟩
    obtain ⟨a, rfl, hma⟩ := hlg k q hq
    obtain ⟨z, hz⟩ : ∃ z, ns[q]? = some z := ⟨_, List.getElem?_eq_getElem (hsl q (List.mem_of_getElem? hq))⟩
    have hze : (Fw.els ns)[q]? = some z.el := by rw [List.getElem?_map, hz]; rfl
    have hzb := (hT.node q z hz).ext hE
    rw [gOf_at hz] at hma
    refine CW.region ?_
    refine WL.val (Y.indexAddrN Try.underlying97 rfl rfl sz0_fuguenode (by omega)) (by decide) ?_
    refine WL.val (Y.load1 Try.underlying42 rfl hma.cell0 rfl) (by decide) ?_
    refine WL.val (Y.assign rfl) (by decide) ?_
    refine WL.nil ?_
    refine hK9 _ _ ?_; try clear hK9 K9
    refine CW.region ?_
    refine WL.val (Y.move rfl) (by decide) ?_
    refine WL.val (Y.move rfl) (by decide) ?_
    refine WL.val (Y.nilCheck rfl) (by decide) ?_
    refine WL.val (Y.fieldAddr fo_fuguenode1 rfl) (by decide) ?_
    refine WL.val (Y.load1 Try.underlying5 rfl hzb.mem.fuguenode1 rfl) (by decide) ?_
    refine WL.st (St.buildSlice rfl (bs1 _)) (by decide) fun v18 w3 hR3 => ?_
    obtain ⟨g18, rfl, hg18, hB18, hx3⟩ := hR3
    have hz3 := hx3.size
    refine WL.st (St.app (ys := [z.el.byte]) Try.underlying96 Try.underlying96 ai_u8 rfl rfl (hOb.ext hx3) (Blk.src1 hB18) (by rw [List.length_map, List.length_take]; omega)) (by decide) fun v19 w4 hR4 => ?_
    obtain ⟨hO4, hc4, hf4⟩ := hR4
    have hz4 := hc4.size
    have hE4 : Ext w w4 := (hE.thenExt hx3).step hc4 (fun k h => hfb k h)
    have hOl4 := (hOl.ext hx3).chg hc4 (fun k hk h => by
      obtain ⟨_, _, h1⟩ := (hOl.ext hx3).kind hk
      obtain ⟨_, _, h2⟩ := (hOb.ext hx3).kind h
      rw [h1] at h2; injection h2 with h2; injection h2 with _ h2; exact absurd h2 (by decide))
    refine WL.val (Y.assign rfl) (by decide) ?_
    refine WL.nil ?_
    refine hK8 _ _ ?_; try clear hK8 K8
    refine CW.region ?_
    refine WL.val (Y.add rfl rfl ⟨by omega, by omega⟩) (by decide) ?_
    refine WL.val (Y.move rfl) (by decide) ?_
    refine WL.nil ?_
    exact ⟨(k + 1, v19), (by show m - (k + 1) < m - k; omega), (by repeat (first | exact Fr.le.nil | refine Fr.le.cons rfl ?_)), (by show k + 1 ≤ m; omega), (by rw [List.take_add_one, hq]; simpa [byteAt_at hze] using hO4), hOl4, (fun q hq => by rcases hf4 with e | e; rw [e] at hq; exact hfb q hq; have := e q hq; have := hE.size; omega), hE4⟩
  refine CW.exit ?_
  refine hK3 _ _ ?_; try clear hK3 K3
  refine CW.seq fun K10 hK10 => ?_
  have hke : (seenE (Fw.els ns)).take k = seenE (Fw.els ns) := List.take_of_length_le (by omega)
  rw [hke] at hOb
  obtain ⟨Ab, mb, cb, rfl⟩ := hOb.lens
  obtain ⟨hm1, hm2, hm3, _⟩ := hOb.mem Ab mb cb rfl
  rw [bytesC_length, Nat.mul_one] at hm3
  refine CW.region ?_
  refine WL.val (Y.move rfl) (by decide) ?_
  refine WL.val (Y.bytes_string Try.underlying96 Try.underlying5 Try.underlying9 rfl (l := (seenE (Fw.els ns)).map (byteAt (Fw.els ns))) hm3 hm1 hm2) (by decide) ?_
  refine WL.val (Y.assign rfl) (by decide) ?_
  refine WL.nil ?_
  refine hK10 _ _ ?_; try clear hK10 K10
  refine CW.ret ⟨_, rfl, ?_⟩
  exact ⟨rfl, hE⟩
theorem fref_any (g rb ra : Nat) (ad : List Dig) (ns : List Nn) (n : Int) (w : World) (hT : FtAt w g rb ra ad ns) (hG : Fu.Good (Fw.els ns)) (hn : ns.length ≤ 400001) : Calls Try.prog 24 #[.pointer (some ⟨g, 0, none⟩), .int .i64 n] w (Ret fun v w' => v = .tuple #[refV (refT (Fw.els ns) n).1, .bool (refT (Fw.els ns) n).2] ∧ Ext w w') := by
  have hlv : (seenE (Fw.els ns)).length = liveN ns := hG.seen_length
  have hel : (Fw.els ns).length = ns.length := List.length_map _
  have hsl : ∀ q, q ∈ seenE (Fw.els ns) → q < ns.length := fun q hq => by rw [← hel]; exact seen_lt hG.down hq
  obtain ⟨ir, hir, hzr, hsr⟩ := info_apiRef
  have hli : (seenE (Fw.els ns)).length ≤ 400001 := by
    have := List.countP_le_length (p := fun x : El => !x.gone) (l := Fw.els ns)
    rw [hlv]; rw [List.length_map] at this; exact Nat.le_trans this hn
  refine calls_of_CWct 23 4 34 [5] [(0, .pointer (some ⟨g, 0, none⟩)), (1, .int .i64 n)] Try.func24 rfl rfl rfl Try.underlying61 rfl (by kernel_rfl) (by simp) args2 ?_
  have hE : Ext w w := Chg.refl
  refine CW.seq fun K1 hK1 => ?_
  refine CW.region ?_
  refine WL.alloc (hir) (hzr) rfl (by decide) fun g4 w1 hx1 hg4 hB4 => ?_
  have hlt4 := hB4.lt; have hz1 := hx1.size
  have hM4 := hB4.mem; have hz1 := hx1.size; have hE := hE.thenExt hx1
  refine WL.val (Y.assign rfl) (by decide) ?_
  refine WL.nil ?_
  refine hK1 _ _ ?_; try clear hK1 K1
  refine CW.seq fun K2 hK2 => ?_
  refine CW.seq_testE 13 (n < 0 ∨ (liveN ns : Int) ≤ n) ?_ ?_
  · refine CW.region ?_
    refine WL.val (Y.move rfl) (by decide) ?_
    refine WL.val (Y.lss rfl rfl) (by decide) ?_
    refine WL.val (Y.move rfl) (by decide) ?_
    first | refine WL.casesD (d := 8) rfl (fun hg8 => ?_) (fun hg8 => ?_) | refine WL.casesND (d := 8) rfl (fun hg8 => ?_) (fun hg8 => ?_) | refine WL.cases (d := 8) rfl (fun hg8 => ?_) (fun hg8 => ?_)
    · -- t8 = T
      refine WL.goff rfl rfl (by decide) ?_
      refine WL.goff rfl rfl (by decide) ?_
      refine WL.goff rfl rfl (by decide) ?_
      refine WL.goff rfl rfl (by decide) ?_
      refine WL.val (Y.pick rfl rfl) (by decide) ?_
      refine WL.nil ⟨⟨_, rfl, ?_⟩, Chg.refl, (by repeat (first | exact Fr.le.refl | refine Fr.le.push rfl ?_))⟩
      first | (simp only [*, Int.natCast_inj, Bool.not_eq_true', decide_eq_false_iff_not, decide_eq_true_eq, not_true_eq_false, not_false_eq_true, true_and, false_and, and_true, and_false, false_or, or_false, true_or, or_true, iff_true, true_iff, iff_false, false_iff]; done) | (simp_all; done) | (refine congrArg Value.bool (Bool.eq_iff_iff.2 ?_); simp_all; done) | (simp_all; omega)
    · -- t8 = F
      refine WL.gval rfl rfl (Y.move rfl) (by decide) ?_
      refine WL.gval rfl rfl (Y.move rfl) (by decide) ?_
      refine WL.gcall rfl rfl Try.func20 rfl rfl rfl (flen_any g rb ra ad ns _ (hT.ext hE)) (by decide) ?_; rintro v w2 ⟨rfl, hx2⟩; have hz2 := hx2.size; have hE := hE.thenExt hx2; have hB4 := hB4.ext hx2
      refine WL.gval rfl rfl (Y.geq rfl rfl) (by decide) ?_
      refine WL.val (Y.pick rfl rfl) (by decide) ?_
      refine WL.nil ⟨⟨_, rfl, ?_⟩, hx2, (by repeat (first | exact Fr.le.refl | refine Fr.le.push rfl ?_))⟩
      first | (simp only [*, Int.natCast_inj, Bool.not_eq_true', decide_eq_false_iff_not, decide_eq_true_eq, not_true_eq_false, not_false_eq_true, true_and, false_and, and_true, and_false, false_or, or_false, true_or, or_true, iff_true, true_iff, iff_false, false_iff]; done) | (simp_all; done) | (refine congrArg Value.bool (Bool.eq_iff_iff.2 ?_); simp_all; done) | (simp_all; omega)
  intro w3 hx3; have hz3 := hx3.size; have hE := hE.thenExt hx3; have hB4 := hB4.ext hx3
  first | refine CW.condD rfl (fun ht3 => ?_) (fun ht3 => ?_) | refine CW.condND rfl (fun ht3 => ?_) (fun ht3 => ?_) | refine CW.condN rfl (fun ht3 => ?_) (fun ht3 => ?_) | refine CW.cond rfl (fun ht3 => ?_) (fun ht3 => ?_)
  · -- then
    refine CW.seq fun K4 hK4 => ?_
    refine CW.region ?_
    refine WL.val (Y.build0 (build_apiRef _)) (by decide) ?_
    refine WL.store (g := g4) (pre := []) (old := refC RefD.zero) (post := []) (new := refC RefD.zero) rfl rfl rfl rfl (sz_apiRef _) (by simpa using hB4) (by simp only [refC_length]) (one_refC) (fun w4 hc4 hB4_ => ?_)
    have hz4 := hc4.size; have hE := hE.step hc4 (fun k h => by omega)
    have hB4 : Blk w4 g4 61 (refC RefD.zero) := by simpa using hB4_
    refine WL.val (Y.assign rfl) (by decide) ?_
    refine WL.nil ?_
    refine hK4 _ _ ?_; try clear hK4 K4
    refine CW.ret ?_
    exact ⟨_, _, _, rfl, hB4.mem, refC_length _, rfl, ⟨by rw [refT, if_pos (by rw [hlv]; assumption)], hE⟩⟩
  refine CW.skip ?_
  refine hK2 _ _ ?_; try clear hK2 K2
  refine CW.seq fun K5 hK5 => ?_
  refine CW.region ?_
  refine WL.val (Y.move rfl) (by decide) ?_
  refine WL.call Try.func36 rfl rfl rfl (flist_any g rb ra ad ns _ (hT.ext hE) hG hn) (by simp) ?_; rintro v16 w5 hR5
  obtain ⟨hO5, hf5, hx5⟩ := hR5
  obtain ⟨A, m, c, rfl⟩ := hO5.lens
  obtain ⟨hlm, hlg⟩ := ptr_map hO5
  have hcc := (hO5.mem A m c rfl).2.2.2
  unfold maxLen at hcc
  have hE := hE.thenExt hx5
  have hB4 := hB4.ext hx5
  obtain ⟨i, rfl⟩ : ∃ i : Nat, n = (i : Int) := ⟨n.toNat, by omega⟩
  obtain ⟨q, hq⟩ : ∃ q, (seenE (Fw.els ns))[i]? = some q := ⟨_, List.getElem?_eq_getElem (by omega)⟩
  obtain ⟨a, rfl, hma⟩ := hlg i q hq
  obtain ⟨z, hz⟩ : ∃ z, ns[q]? = some z := ⟨_, List.getElem?_eq_getElem (hsl q (List.mem_of_getElem? hq))⟩
  have hze : (Fw.els ns)[q]? = some z.el := by rw [List.getElem?_map, hz]; rfl
  have hzb := (hT.node q z hz).ext hE
  rw [gOf_at hz] at hma
  refine WL.val (Y.move rfl) (by decide) ?_
  refine WL.val (Y.indexAddrN Try.underlying97 rfl rfl sz0_fuguenode (by omega)) (by decide) ?_
  refine WL.val (Y.load1 Try.underlying42 rfl (hma.cell0) rfl) (by decide) ?_
  refine WL.val (Y.nilCheck rfl) (by decide) ?_
  refine WL.val (Y.fieldAddr fo_fuguenode0 rfl) (by decide) ?_
  refine WL.val (Y.load Try.underlying61 rfl hzb.mem.fuguenode0 (sz_apiRef _) rfl) (by decide) ?_
  refine WL.store (g := g4) (pre := []) (old := refC RefD.zero) (post := []) (new := refC z.el.name) rfl rfl rfl rfl (sz_apiRef _) (by simpa using hB4) (by simp only [refC_length]) (one_refC) (fun w6 hc6 hB6_ => ?_)
  have hz6 := hc6.size; have hE := hE.step hc6 (fun k h => by omega)
  have hB4 : Blk w6 g4 61 (refC z.el.name) := by simpa using hB6_
  refine WL.val (Y.assign rfl) (by decide) ?_
  refine WL.nil ?_
  refine hK5 _ _ ?_; try clear hK5 K5
  refine CW.ret ?_
  exact ⟨_, _, _, rfl, hB4.mem, refC_length _, rfl, ⟨by rw [refT, if_neg (by rw [hlv]; assumption), show ((i : Int)).toNat = i by omega, hq]; simp [nm_at hze], hE⟩⟩
set_option maxHeartbeats 1000000 in
theorem fgap_any (g rb ra : Nat) (ad : List Dig) (ns : List Nn) (n : Int) (w : World) (hT : FtAt w g rb ra ad ns) (hG : Fu.Good (Fw.els ns)) (hn : ns.length ≤ 400001) : Calls Try.prog 50 #[.pointer (some ⟨g, 0, none⟩), .int .i64 n] w (Ret fun v w' => v = .tuple #[refV (gapE (Fw.els ns) n).1, .bool (gapE (Fw.els ns) n).2.1, .bool (gapE (Fw.els ns) n).2.2] ∧ Ext w w') := by
  have hlv : (seenE (Fw.els ns)).length = liveN ns := hG.seen_length
  have hel : (Fw.els ns).length = ns.length := List.length_map _
  have hsl : ∀ q, q ∈ seenE (Fw.els ns) → q < ns.length := fun q hq => by rw [← hel]; exact seen_lt hG.down hq
  obtain ⟨ir, hir, hzr, hsr⟩ := info_apiRef
  have hli : (seenE (Fw.els ns)).length ≤ 400001 := by
    have := List.countP_le_length (p := fun x : El => !x.gone) (l := Fw.els ns)
    rw [hlv]; rw [List.length_map] at this; exact Nat.le_trans this hn
  refine calls_of_CWct 69 4 34 [5, 6] [(0, .pointer (some ⟨g, 0, none⟩)), (1, .int .i64 n)] Try.func50 rfl rfl rfl Try.underlying61 rfl (by kernel_rfl) (by simp) args2 ?_
  have hE : Ext w w := Chg.refl
  refine CW.seq fun K1 hK1 => ?_
  refine CW.region ?_
  refine WL.alloc (hir) (hzr) rfl (by decide) fun g4 w1 hx1 hg4 hB4 => ?_
  have hlt4 := hB4.lt; have hz1 := hx1.size
  have hM4 := hB4.mem; have hz1 := hx1.size; have hE := hE.thenExt hx1
  refine WL.val (Y.assign rfl) (by decide) ?_
  refine WL.val (Y.assign rfl) (by decide) ?_
  refine WL.nil ?_
  refine hK1 _ _ ?_; try clear hK1 K1
  refine CW.seq fun K2 hK2 => ?_
  refine CW.seq_testE 23 (n < 0 ∨ (liveN ns : Int) < n) ?_ ?_
  · refine CW.region ?_
    refine WL.val (Y.move rfl) (by decide) ?_
    refine WL.call Try.func37 rfl rfl rfl (fmade_any g rb ra ad ns _ (hT.ext hE)) (by simp) ?_; rintro v w2 ⟨rfl, hx2⟩; have hz2 := hx2.size; have hE := hE.thenExt hx2; have hB4 := hB4.ext hx2
    refine WL.val (Y.not rfl) (by decide) ?_
    refine WL.val (Y.move rfl) (by decide) ?_
    first | refine WL.casesD (d := 12) rfl (fun hg12 => ?_) (fun hg12 => ?_) | refine WL.casesND (d := 12) rfl (fun hg12 => ?_) (fun hg12 => ?_) | refine WL.cases (d := 12) rfl (fun hg12 => ?_) (fun hg12 => ?_)
    · -- t12 = T
      refine WL.goff rfl rfl (by decide) ?_
      refine WL.goff rfl rfl (by decide) ?_
      refine WL.val (Y.pick rfl rfl) (by decide) ?_
      refine WL.val (Y.move rfl) (by decide) ?_
      refine WL.goff rfl rfl (by decide) ?_
      refine WL.goff rfl rfl (by decide) ?_
      refine WL.goff rfl rfl (by decide) ?_
      refine WL.goff rfl rfl (by decide) ?_
      refine WL.goff rfl rfl (by decide) ?_
      refine WL.goff rfl rfl (by decide) ?_
      refine WL.val (Y.pick rfl rfl) (by decide) ?_
      refine WL.nil ⟨⟨_, rfl, ?_⟩, hx2, (by repeat (first | exact Fr.le.refl | refine Fr.le.push rfl ?_))⟩
      first | (simp only [*, Int.natCast_inj, Bool.not_eq_true', decide_eq_false_iff_not, decide_eq_true_eq, not_true_eq_false, not_false_eq_true, true_and, false_and, and_true, and_false, false_or, or_false, true_or, or_true, iff_true, true_iff, iff_false, false_iff]; done) | (simp_all; done) | (refine congrArg Value.bool (Bool.eq_iff_iff.2 ?_); simp_all; done) | (simp_all; omega)
    · -- t12 = F
      refine WL.gval rfl rfl (Y.move rfl) (by decide) ?_
      refine WL.gval rfl rfl (Y.lss rfl rfl) (by decide) ?_
      refine WL.val (Y.pick rfl rfl) (by decide) ?_
      refine WL.val (Y.move rfl) (by decide) ?_
      first | refine WL.casesD (d := 16) rfl (fun hg16 => ?_) (fun hg16 => ?_) | refine WL.casesND (d := 16) rfl (fun hg16 => ?_) (fun hg16 => ?_) | refine WL.cases (d := 16) rfl (fun hg16 => ?_) (fun hg16 => ?_)
      · -- t16 = T
        refine WL.goff rfl rfl (by decide) ?_
        refine WL.goff rfl rfl (by decide) ?_
        refine WL.goff rfl rfl (by decide) ?_
        refine WL.goff rfl rfl (by decide) ?_
        refine WL.goff rfl rfl (by decide) ?_
        refine WL.goff rfl rfl (by decide) ?_
        refine WL.val (Y.pick rfl rfl) (by decide) ?_
        refine WL.nil ⟨⟨_, rfl, ?_⟩, hx2, (by repeat (first | exact Fr.le.refl | refine Fr.le.push rfl ?_))⟩
        first | (simp only [*, Int.natCast_inj, Bool.not_eq_true', decide_eq_false_iff_not, decide_eq_true_eq, not_true_eq_false, not_false_eq_true, true_and, false_and, and_true, and_false, false_or, or_false, true_or, or_true, iff_true, true_iff, iff_false, false_iff]; done) | (simp_all; done) | (refine congrArg Value.bool (Bool.eq_iff_iff.2 ?_); simp_all; done) | (simp_all; omega)
      · -- t16 = F
        refine WL.gval rfl rfl (Y.move rfl) (by decide) ?_
        refine WL.gval rfl rfl (Y.move rfl) (by decide) ?_
        refine WL.gval rfl rfl (Y.nilCheck rfl) (by decide) ?_
        refine WL.gval rfl rfl (Y.fieldAddr fo_fugueTree3 rfl) (by decide) ?_
        refine WL.gval rfl rfl (Y.load1 Try.underlying3 rfl ((hT.ext hE).blk.mem.fugueTree3) rfl) (by decide) ?_
        refine WL.gval rfl rfl (Y.gtr rfl rfl) (by decide) ?_
        refine WL.val (Y.pick rfl rfl) (by decide) ?_
        refine WL.nil ⟨⟨_, rfl, ?_⟩, hx2, (by repeat (first | exact Fr.le.refl | refine Fr.le.push rfl ?_))⟩
        first | (simp only [*, Int.natCast_inj, Bool.not_eq_true', decide_eq_false_iff_not, decide_eq_true_eq, not_true_eq_false, not_false_eq_true, true_and, false_and, and_true, and_false, false_or, or_false, true_or, or_true, iff_true, true_iff, iff_false, false_iff]; done) | (simp_all; done) | (refine congrArg Value.bool (Bool.eq_iff_iff.2 ?_); simp_all; done) | (simp_all; omega)
  intro w3 hx3; have hz3 := hx3.size; have hE := hE.thenExt hx3; have hB4 := hB4.ext hx3
  first | refine CW.condD rfl (fun ht3 => ?_) (fun ht3 => ?_) | refine CW.condND rfl (fun ht3 => ?_) (fun ht3 => ?_) | refine CW.condN rfl (fun ht3 => ?_) (fun ht3 => ?_) | refine CW.cond rfl (fun ht3 => ?_) (fun ht3 => ?_)
  · -- then
    refine CW.seq fun K4 hK4 => ?_
    refine CW.region ?_
    refine WL.val (Y.build0 (build_apiRef _)) (by decide) ?_
    refine WL.store (g := g4) (pre := []) (old := refC RefD.zero) (post := []) (new := refC RefD.zero) rfl rfl rfl rfl (sz_apiRef _) (by simpa using hB4) (by simp only [refC_length]) (one_refC) (fun w4 hc4 hB4_ => ?_)
    have hz4 := hc4.size; have hE := hE.step hc4 (fun k h => by omega)
    have hB4 : Blk w4 g4 61 (refC RefD.zero) := by simpa using hB4_
    refine WL.val (Y.assign rfl) (by decide) ?_
    refine WL.val (Y.assign rfl) (by decide) ?_
    refine WL.nil ?_
    refine hK4 _ _ ?_; try clear hK4 K4
    refine CW.ret ?_
    exact ⟨_, _, _, rfl, hB4.mem, refC_length _, rfl, ⟨by rw [gapE, if_pos (by rw [hlv]; assumption)], hE⟩⟩
  refine CW.skip ?_
  refine hK2 _ _ ?_; try clear hK2 K2
  refine CW.seq fun K5 hK5 => ?_
  refine CW.region ?_
  refine WL.val (Y.move rfl) (by decide) ?_
  refine WL.val (Y.nilCheck rfl) (by decide) ?_
  refine WL.val (Y.fieldAddr fo_fugueTree0 rfl) (by decide) ?_
  refine WL.val (Y.load1 Try.underlying42 rfl ((hT.ext hE).blk.mem.fugueTree0) rfl) (by decide) ?_
  refine WL.val (Y.assign rfl) (by decide) ?_
  refine WL.nil ?_
  refine hK5 _ _ ?_; try clear hK5 K5
  refine CW.seq_to (X := Unit) (fun _ => [(0, .pointer (some ⟨g, 0, none⟩)), (1, .int .i64 n), (4, .pointer (some ⟨g4, 0, none⟩)), (7, .pointer (some ⟨gOf ns (gapI (Fw.els ns) n), 0, none⟩))]) (fun _ w0 => Ext w w0 ∧ Blk w0 g4 61 (refC RefD.zero)) ?_ ?_
  · skip
    refine CW.seq fun K7 hK7 => ?_
    refine CW.region ?_
    refine WL.val (Y.move rfl) (by decide) ?_
    refine WL.val (Y.gtr rfl rfl) (by decide) ?_
    refine WL.nil ?_
    refine hK7 _ _ ?_; try clear hK7 K7
    first | refine CW.condD rfl (fun ht8 => ?_) (fun ht8 => ?_) | refine CW.condND rfl (fun ht8 => ?_) (fun ht8 => ?_) | refine CW.condN rfl (fun ht8 => ?_) (fun ht8 => ?_) | refine CW.cond rfl (fun ht8 => ?_) (fun ht8 => ?_)
    · -- then
      refine CW.region ?_
      refine WL.val (Y.move rfl) (by decide) ?_
      refine WL.call Try.func36 rfl rfl rfl (flist_any g rb ra ad ns _ (hT.ext hE) hG hn) (by simp) ?_; rintro v32 w5 hR5
      obtain ⟨hO5, hf5, hx5⟩ := hR5
      obtain ⟨A, m, c, rfl⟩ := hO5.lens
      obtain ⟨hlm, hlg⟩ := ptr_map hO5
      have hcc := (hO5.mem A m c rfl).2.2.2
      unfold maxLen at hcc
      have hE := hE.thenExt hx5
      have hB4 := hB4.ext hx5
      obtain ⟨i, rfl⟩ : ∃ i : Nat, n = (i : Int) + 1 := ⟨(n - 1).toNat, by omega⟩
      obtain ⟨q, hq⟩ : ∃ q, (seenE (Fw.els ns))[i]? = some q := ⟨_, List.getElem?_eq_getElem (by omega)⟩
      obtain ⟨a, rfl, hma⟩ := hlg i q hq
      obtain ⟨z, hz⟩ : ∃ z, ns[q]? = some z := ⟨_, List.getElem?_eq_getElem (hsl q (List.mem_of_getElem? hq))⟩
      have hze : (Fw.els ns)[q]? = some z.el := by rw [List.getElem?_map, hz]; rfl
      have hzb := (hT.node q z hz).ext hE
      rw [gOf_at hz] at hma
      have hgi : gapI (Fw.els ns) ((i : Int) + 1) = q := by rw [gapI, if_neg (by omega), show ((i : Int) + 1 - 1).toNat = i by omega, hq]; rfl
      refine WL.val (Y.move rfl) (by decide) ?_
      refine WL.val (Y.sub rfl rfl ⟨by omega, by omega⟩) (by decide) ?_
      rw [show ((i : Int) + 1 - 1) = (i : Int) by omega]
      refine WL.val (Y.indexAddrN Try.underlying97 rfl rfl sz0_fuguenode (by omega)) (by decide) ?_
      refine WL.val (Y.load1 Try.underlying42 rfl (hma.cell0) rfl) (by decide) ?_
      refine WL.val (Y.assign rfl) (by decide) ?_
      refine WL.nil ?_
      exact ⟨(), (by rw [hgi, gOf_at hz]; exact (by repeat (first | exact Fr.le.nil | refine Fr.le.cons rfl ?_))), hE, hB4⟩
 
    refine CW.skip ?_
    have hn0 : n = 0 := by omega
    subst hn0
    exact ⟨(), (by repeat (first | exact Fr.le.nil | refine Fr.le.cons rfl ?_)), hE, hB4⟩
  rintro u w6 hj6
  obtain ⟨hE, hB4⟩ := hj6
  have hgl := gapI_lt hG (n := n) (by omega) (by rw [hlv]; omega)
  rw [hel] at hgl
  obtain ⟨⟨xe, gx, lv, rv⟩, hz⟩ : ∃ z, ns[gapI (Fw.els ns) n]? = some z := ⟨_, List.getElem?_eq_getElem hgl⟩
  have hze : (Fw.els ns)[gapI (Fw.els ns) n]? = some xe := by rw [List.getElem?_map, hz]; rfl
  have hzb0 : Blk w gx TN (nodeC xe lv rv) := hT.node _ _ hz
  have hzb := hzb0.ext hE
  have hkr : Own w TP 1 rv (ptrL (xe.right.map (gOf ns))) := hT.kids _ _ false hz
  obtain ⟨A2, m2, c2, rfl⟩ := hkr.lens
  obtain ⟨hrm, hrg⟩ := ptr_map hkr
  have hge : gapE (Fw.els ns) n = ((gapAt (Fw.els ns) (gapI (Fw.els ns) n)).1, (gapAt (Fw.els ns) (gapI (Fw.els ns) n)).2, true) := by rw [gapE, if_neg (by rw [hlv]; assumption)]
  rw [gOf_at hz]
  refine CW.seq fun K9 hK9 => ?_
  refine CW.seq fun K10 hK10 => ?_
  refine CW.region ?_
  refine WL.val (Y.move rfl) (by decide) ?_
  refine WL.val (Y.nilCheck rfl) (by decide) ?_
  refine WL.val (Y.fieldAddr fo_fuguenode4 rfl) (by decide) ?_
  refine WL.val (Y.load1 Try.underlying97 rfl hzb.mem.fuguenode4 rfl) (by decide) ?_
  refine WL.val (Y.len_slice Try.underlying97 rfl) (by decide) ?_
  refine WL.val (Y.eql rfl rfl) (by decide) ?_
  refine WL.nil ?_
  refine hK10 _ _ ?_; try clear hK10 K10
  first | refine CW.condD rfl (fun ht11 => ?_) (fun ht11 => ?_) | refine CW.condND rfl (fun ht11 => ?_) (fun ht11 => ?_) | refine CW.condN rfl (fun ht11 => ?_) (fun ht11 => ?_) | refine CW.cond rfl (fun ht11 => ?_) (fun ht11 => ?_)
  · -- then
    refine CW.seq fun K12 hK12 => ?_
    refine CW.region ?_
    refine WL.val (Y.move rfl) (by decide) ?_
    refine WL.val (Y.nilCheck rfl) (by decide) ?_
    refine WL.val (Y.fieldAddr fo_fuguenode0 rfl) (by decide) ?_
    refine WL.val (Y.load Try.underlying61 rfl hzb.mem.fuguenode0 (sz_apiRef _) rfl) (by decide) ?_
    refine WL.store (g := g4) (pre := []) (old := refC RefD.zero) (post := []) (new := refC xe.name) rfl rfl rfl rfl (sz_apiRef _) (by simpa using hB4) (by simp only [refC_length]) (one_refC) (fun w7 hc7 hB7_ => ?_)
    have hz7 := hc7.size; have hE := hE.step hc7 (fun k h => by omega)
    have hB4 : Blk w7 g4 61 (refC xe.name) := by simpa using hB7_
    refine WL.val (Y.assign rfl) (by decide) ?_
    refine WL.val (Y.assign rfl) (by decide) ?_
    refine WL.nil ?_
    refine hK12 _ _ ?_; try clear hK12 K12
    refine CW.ret ?_
    have hr0 : xe.right = [] := List.length_eq_zero_iff.1 (by omega)
    have hga : gapAt (Fw.els ns) (gapI (Fw.els ns) n) = (xe.name, false) := by rw [gapAt, hze]; simp only [Option.map_some, Option.getD_some, hr0]; rw [nm_at hze]
    exact ⟨_, _, _, rfl, hB4.mem, refC_length _, rfl, ⟨by rw [hge, hga], hE⟩⟩
  refine CW.skip ?_
  refine hK9 _ _ ?_; try clear hK9 K9
  refine CW.seq fun K13 hK13 => ?_
  obtain ⟨c0, r0, hrc⟩ : ∃ c r, xe.right = c :: r := by
    cases hr : xe.right with
    | nil => rw [hr] at hrm; simp at hrm; omega
    | cons c r => exact ⟨c, r, rfl⟩
  obtain ⟨a2, rfl, hma2⟩ := hrg 0 c0 (by rw [hrc]; rfl)
  have hc0 := hG.down _ _ hze c0 (.inr (by rw [hrc]; simp))
  rw [hel] at hc0
  have hga : gapAt (Fw.els ns) (gapI (Fw.els ns) n) = (nm (Fw.els ns) (lmE (Fw.els ns) c0), true) := by rw [gapAt, hze]; simp only [Option.map_some, Option.getD_some, hrc]
  refine CW.region ?_
  refine WL.val (Y.move rfl) (by decide) ?_
  refine WL.val (Y.nilCheck rfl) (by decide) ?_
  refine WL.val (Y.fieldAddr fo_fuguenode4 rfl) (by decide) ?_
  refine WL.val (Y.load1 Try.underlying97 rfl hzb.mem.fuguenode4 rfl) (by decide) ?_
  refine WL.val (Y.indexAddrN (i := 0) Try.underlying97 rfl rfl sz0_fuguenode (by omega)) (by decide) ?_
  refine WL.val (Y.load1 Try.underlying42 rfl ((hma2.ext hE).cell0) rfl) (by decide) ?_
  refine WL.val (Y.assign rfl) (by decide) ?_
  refine WL.nil ?_
  refine hK13 _ _ ?_; try clear hK13 K13
  refine CW.seq fun K14 hK14 => ?_
  refine CW.block ?_
  refine CW.loop (X := Nat) (fun x => [(0, .pointer (some ⟨g, 0, none⟩)), (1, .int .i64 n), (4, .pointer (some ⟨g4, 0, none⟩)), (8, .pointer (some ⟨gOf ns x, 0, none⟩))]) (fun x w0 => x < ns.length ∧ lmE (Fw.els ns) x = lmE (Fw.els ns) c0 ∧ Ext w w0 ∧ Blk w0 g4 61 (refC RefD.zero)) (fun x => ns.length - x) c0 (by repeat (first | exact Fr.le.nil | refine Fr.le.cons rfl ?_)) ⟨hc0.2, rfl, hE, hB4⟩ ?_
  intro x w8 hl8
  obtain ⟨hxl, hlme, hE, hB4⟩ := hl8
  obtain ⟨⟨xl, gl, lv2, rv2⟩, hz2⟩ : ∃ z, ns[x]? = some z := ⟨_, List.getElem?_eq_getElem hxl⟩
  have hzl : (Fw.els ns)[x]? = some xl := by rw [List.getElem?_map, hz2]; rfl
  have hzb2 : Blk w gl TN (nodeC xl lv2 rv2) := hT.node _ _ hz2
  have hzb := hzb2.ext hE
  have hkl : Own w TP 1 lv2 (ptrL (xl.left.map (gOf ns))) := hT.kids _ _ true hz2
  obtain ⟨A3, m3, c3, rfl⟩ := hkl.lens
  obtain ⟨hlm, hlg⟩ := ptr_map hkl
  rw [gOf_at hz2]
  refine CW.seq fun K15 hK15 => ?_
  refine CW.seq fun K16 hK16 => ?_
  refine CW.region ?_
  refine WL.val (Y.move rfl) (by decide) ?_
  refine WL.val (Y.nilCheck rfl) (by decide) ?_
  refine WL.val (Y.fieldAddr fo_fuguenode3 rfl) (by decide) ?_
  refine WL.val (Y.load1 Try.underlying97 rfl hzb.mem.fuguenode3 rfl) (by decide) ?_
  refine WL.val (Y.len_slice Try.underlying97 rfl) (by decide) ?_
  refine WL.val (Y.gtr rfl rfl) (by decide) ?_
  refine WL.nil ?_
  refine hK16 _ _ ?_; try clear hK16 K16
  first | refine CW.condD rfl (fun ht17 => ?_) (fun ht17 => ?_) | refine CW.condND rfl (fun ht17 => ?_) (fun ht17 => ?_) | refine CW.condN rfl (fun ht17 => ?_) (fun ht17 => ?_) | refine CW.cond rfl (fun ht17 => ?_) (fun ht17 => ?_)
  · -- then
    refine CW.skip ?_
    refine hK15 _ _ ?_; try clear hK15 K15
    refine CW.block ?_
    obtain ⟨c1, r1, hlc⟩ : ∃ c r, xl.left = c :: r := by
      cases hr : xl.left with
      | nil => rw [hr] at hlm; simp at hlm; omega
      | cons c r => exact ⟨c, r, rfl⟩
    obtain ⟨a3, rfl, hma3⟩ := hlg 0 c1 (by rw [hlc]; rfl)
    have hc1 := hG.down _ _ hzl c1 (.inl (by rw [hlc]; simp))
    rw [hel] at hc1
    refine CW.region ?_
    refine WL.val (Y.move rfl) (by decide) ?_
    refine WL.val (Y.nilCheck rfl) (by decide) ?_
    refine WL.val (Y.fieldAddr fo_fuguenode3 rfl) (by decide) ?_
    refine WL.val (Y.load1 Try.underlying97 rfl hzb.mem.fuguenode3 rfl) (by decide) ?_
    refine WL.val (Y.indexAddrN (i := 0) Try.underlying97 rfl rfl sz0_fuguenode (by omega)) (by decide) ?_
    refine WL.val (Y.load1 Try.underlying42 rfl ((hma3.ext hE).cell0) rfl) (by decide) ?_
    refine WL.val (Y.assign rfl) (by decide) ?_
    refine WL.nil ?_
    exact ⟨c1, (by show ns.length - c1 < ns.length - x; omega), (by repeat (first | exact Fr.le.nil | refine Fr.le.cons rfl ?_)), hc1.2, (by rw [← hlme, lm_eq hG.down hzl, hlc]), hE, hB4⟩
  refine CW.exit ?_
  refine hK14 _ _ ?_; try clear hK14 K14
  refine CW.seq fun K18 hK18 => ?_
  refine CW.region ?_
  refine WL.val (Y.move rfl) (by decide) ?_
  refine WL.val (Y.nilCheck rfl) (by decide) ?_
  refine WL.val (Y.fieldAddr fo_fuguenode0 rfl) (by decide) ?_
  refine WL.val (Y.load Try.underlying61 rfl hzb.mem.fuguenode0 (sz_apiRef _) rfl) (by decide) ?_
  refine WL.store (g := g4) (pre := []) (old := refC RefD.zero) (post := []) (new := refC xl.name) rfl rfl rfl rfl (sz_apiRef _) (by simpa using hB4) (by simp only [refC_length]) (one_refC) (fun w9 hc9 hB9_ => ?_)
  have hz9 := hc9.size; have hE := hE.step hc9 (fun k h => by omega)
  have hB4 : Blk w9 g4 61 (refC xl.name) := by simpa using hB9_
  refine WL.val (Y.assign rfl) (by decide) ?_
  refine WL.val (Y.assign rfl) (by decide) ?_
  refine WL.nil ?_
  refine hK18 _ _ ?_; try clear hK18 K18
  refine CW.ret ?_
  have hl0 : xl.left = [] := List.length_eq_zero_iff.1 (by omega)
  have hlx : lmE (Fw.els ns) c0 = x := by rw [← hlme, lm_eq hG.down hzl, hl0]
  exact ⟨_, _, _, rfl, hB4.mem, refC_length _, rfl, ⟨by rw [hge, hga, hlx, nm_at hzl], hE⟩⟩
end Go.Proofs.Ytmndofgagngcgaa
