/- Several texts as one: Gy, Gz, Ha. -/
import Derived.Test.YtecolkngbcgmcaaN3
import Derived.Test.YtecolkngbcgmcaaSm
set_option linter.unusedSimpArgs false
set_option linter.unusedVariables false
/- The reference's marks, Above, both, Heads, Common, Within, walked. No condition. -/
namespace Go.Pl
open Go.Fw
/-- Those of the first k at whose places p holds. -/
def selD (p : Nat → Bool) (all : List Dig) : Nat → List Dig
  | 0 => []
  | i + 1 => match all[i]? with
    | some d => if p i = true then selD p all i ++ [d] else selD p all i
    | none => selD p all i
section
variable {p : Nat → Bool} {all : List Dig}
theorem selD_at {i : Nat} {d : Dig} (h : all[i]? = some d) : selD p all (i + 1) = if p i = true then selD p all i ++ [d] else selD p all i := by rw [selD, h]
theorem selD_len : ∀ {k : Nat}, (selD p all k).length ≤ k
  | 0 => Nat.le_refl _
  | k + 1 => by
    have := selD_len (k := k)
    rw [selD]
    split
    · split <;> (try rw [List.length_append, List.length_singleton]) <;> omega
    · omega
theorem selD_mem {d : Dig} : ∀ {k : Nat}, d ∈ selD p all k ↔ ∃ i, i < k ∧ all[i]? = some d ∧ p i = true
  | 0 => by simp [selD]
  | k + 1 => by
    have ih := selD_mem (d := d) (k := k)
    have hs : (∃ i, i < k + 1 ∧ all[i]? = some d ∧ p i = true) ↔ (∃ i, i < k ∧ all[i]? = some d ∧ p i = true) ∨ (all[k]? = some d ∧ p k = true) := by
      constructor
      · rintro ⟨i, hi, h1, h2⟩
        by_cases e : i = k
        · subst e; exact .inr ⟨h1, h2⟩
        · exact .inl ⟨i, by omega, h1, h2⟩
      · rintro (⟨i, hi, h1, h2⟩ | ⟨h1, h2⟩)
        · exact ⟨i, by omega, h1, h2⟩
        · exact ⟨k, by omega, h1, h2⟩
    rw [hs, selD]
    cases hk : all[k]? with
    | none => simpa using ih
    | some x =>
      simp only
      by_cases hp : p k = true
      · rw [if_pos hp, List.mem_append, ih, List.mem_singleton]
        exact or_congr Iff.rfl ⟨fun e => ⟨by rw [e], hp⟩, fun e => (Option.some.inj e.1).symm⟩
      · rw [if_neg hp, ih]
        simp [hp]
theorem selD_sub : ∀ {k : Nat}, (selD p all k).Sublist (all.take k)
  | 0 => by simp [selD]
  | k + 1 => by
    have ih := selD_sub (k := k)
    rw [selD]
    cases hk : all[k]? with
    | none =>
      have hl : all.length ≤ k := List.getElem?_eq_none_iff.1 hk
      rw [List.take_of_length_le (by omega)] at ih ⊢
      exact ih
    | some x =>
      simp only
      rw [take_succ hk]
      split
      · exact ih.append (List.Sublist.refl _)
      · exact ih.trans (List.sublist_append_left _ _)
theorem selD_up {k : Nat} (h : Up all) : Up (selD p all k) := List.Pairwise.sublist (selD_sub.trans (List.take_sublist k all)) h
theorem selD_filter {q : Dig → Bool} (h : ∀ i d, all[i]? = some d → p i = q d) : ∀ {k : Nat}, k ≤ all.length → selD p all k = (all.take k).filter q
  | 0, _ => by simp [selD]
  | k + 1, hk => by
    obtain ⟨d, hd⟩ : ∃ d, all[k]? = some d := ⟨_, List.getElem?_eq_getElem (by omega)⟩
    rw [selD_at hd, selD_filter h (by omega), take_succ hd, List.filter_append, h k d hd]
    cases hq : q d <;> simp [hq]
end
theorem findI_in {l : List Nd} {d : Dig} (h : d ∈ idsL l) : findI (idsL l) d = ((ixN l d : Nat) : Int) := by rw [findI, if_pos h]; rfl
/-- Those marked, by place. -/
abbrev pB (S : List Bool) (i : Nat) : Bool := decide (S[i]? = some true)
theorem aboveR_eq {l : List Nd} (h : (readE l).2 = 0) {ids : List Dig} (hin : ∀ p ∈ ids, p ∈ idsL l) : srtD (selD (pB (markF l ids)) (idsL l) l.length) = aboveL l ids :=
  up_eq (srt_up _ _ List.Pairwise.nil) (above_up h) fun d => by
    rw [srtD, srt_mem, selD_mem, above_mem h hin]
    constructor
    · rintro (⟨i, hi, h1, h2⟩ | h1)
      · obtain ⟨n, hn⟩ : ∃ n, l[i]? = some n := ⟨_, List.getElem?_eq_getElem hi⟩
        rw [ids_at hn] at h1; cases h1
        refine (markF_bit h hin (mem_ids_at hn)).1 (bit_iff.2 ?_)
        rw [ixN_at h hn]; exact of_decide_eq_true h2
      · cases h1
    · intro hu
      have hd := under_ids h hin hu
      obtain ⟨n, hn, rfl⟩ := at_ixN hd
      exact .inl ⟨ixN l n.id, ixN_lt hd, ids_at hn, decide_eq_true (bit_iff.1 ((markF_bit h hin hd).2 hu))⟩
abbrev bothD (a b : List Dig) : List Dig := a.filter fun d => decide (d ∈ b)
/-! ## The reference's heads -/
def heB (l : List Nd) (all : List Dig) (k i : Nat) : Bool := !decide (i = k) && bitAt (markF l ((all.drop k).take 1)) l (all[i]?.getD Dig.zero)
def heS (l : List Nd) (all : List Dig) (k : Nat) (U : List Bool) : Nat → List Bool
  | 0 => U
  | j + 1 => (heS l all k U j).set j ((heS l all k U j)[j]?.getD false || heB l all k j)
def heU (l : List Nd) (all : List Dig) : Nat → List Bool
  | 0 => List.replicate all.length false
  | k + 1 => heS l all k (heU l all k) all.length
theorem heS_length {l : List Nd} {all : List Dig} {k : Nat} {U : List Bool} : ∀ {j : Nat}, (heS l all k U j).length = U.length
  | 0 => rfl
  | j + 1 => by rw [heS, List.length_set, heS_length]
theorem heU_length {l : List Nd} {all : List Dig} : ∀ {k : Nat}, (heU l all k).length = all.length
  | 0 => by simp [heU]
  | k + 1 => by rw [heU, heS_length, heU_length]
theorem heS_get {l : List Nd} {all : List Dig} {k : Nat} {U : List Bool} : ∀ {j : Nat}, j ≤ U.length → ∀ {i : Nat}, ((heS l all k U j)[i]? = some true ↔ U[i]? = some true ∨ (i < j ∧ heB l all k i = true))
  | 0, _, i => by simp [heS]
  | j + 1, hj, i => by
    rw [heS, List.getElem?_set]
    by_cases e : j = i
    · subst e
      have hlt : j < (heS l all k U j).length := by rw [heS_length]; omega
      have ih := heS_get (l := l) (all := all) (k := k) (U := U) (j := j) (by omega) (i := j)
      obtain ⟨c, hc⟩ : ∃ c, (heS l all k U j)[j]? = some c := ⟨_, List.getElem?_eq_getElem hlt⟩
      rw [hc] at ih
      rw [if_pos rfl, if_pos hlt, hc]
      simp only [Option.some.injEq, Option.getD_some, Bool.or_eq_true] at ih ⊢
      rw [ih]
      constructor
      · rintro ((h | ⟨h, _⟩) | h)
        · exact .inl h
        · omega
        · exact .inr ⟨by omega, h⟩
      · rintro (h | ⟨_, h⟩)
        · exact .inl (.inl h)
        · exact .inr h
    · rw [if_neg e, heS_get (by omega)]
      constructor
      · rintro (h | ⟨h1, h2⟩)
        · exact .inl h
        · exact .inr ⟨by omega, h2⟩
      · rintro (h | ⟨h1, h2⟩)
        · exact .inl h
        · exact .inr ⟨by omega, h2⟩
theorem heU_get {l : List Nd} {all : List Dig} : ∀ {k : Nat} {i : Nat}, i < all.length → ((heU l all k)[i]? = some true ↔ ∃ j, j < k ∧ heB l all j i = true)
  | 0, i, hi => by simp [heU, List.getElem?_replicate]
  | k + 1, i, hi => by
    rw [heU, heS_get (by rw [heU_length]; exact Nat.le_refl _), heU_get hi]
    constructor
    · rintro (⟨j, hj, h⟩ | ⟨_, h⟩)
      · exact ⟨j, by omega, h⟩
      · exact ⟨k, by omega, h⟩
    · rintro ⟨j, hj, h⟩
      by_cases e : j = k
      · subst e; exact .inr ⟨hi, h⟩
      · exact .inl ⟨j, by omega, h⟩
theorem drop_take1 {all : List Dig} {k : Nat} {d : Dig} (h : all[k]? = some d) : (all.drop k).take 1 = [d] := by
  obtain ⟨hlt, hd⟩ := List.getElem?_eq_some_iff.1 h
  rw [List.drop_eq_getElem_cons hlt, hd]; rfl
theorem heB_iff {l : List Nd} (h : (readE l).2 = 0) {all : List Dig} (hall : ∀ d ∈ all, d ∈ idsL l) {k i : Nat} {a d : Dig} (hk : all[k]? = some a) (hi : all[i]? = some d) : heB l all k i = true ↔ i ≠ k ∧ Ab l a d := by
  rw [heB, drop_take1 hk, hi, Option.getD_some, Bool.and_eq_true, markF_bit h (fun p hp => by simp at hp; subst hp; exact hall _ (List.mem_of_getElem? hk)) (hall d (List.mem_of_getElem? hi))]
  simp [Under]
def headsR (l : List Nd) (all : List Dig) : List Dig := selD (fun i => !pB (heU l all all.length) i) all all.length
theorem up_at {all : List Dig} (h : Up all) {i k : Nat} {d : Dig} (hi : all[i]? = some d) (hk : all[k]? = some d) : i = k := by
  have hn : all.Nodup := h.imp fun {a b} hab e => by subst e; rw [less_irrefl] at hab; cases hab
  have h1 := (List.getElem?_eq_some_iff.1 hi).1
  exact (List.getElem?_inj h1 hn).1 (hi.trans hk.symm)
theorem headsR_mem {l : List Nd} (h : (readE l).2 = 0) {all : List Dig} (hu : Up all) (hall : ∀ d ∈ all, d ∈ idsL l) {d : Dig} : d ∈ headsR l all ↔ IsHead l (· ∈ all) d := by
  rw [headsR, selD_mem]
  constructor
  · rintro ⟨i, hi, h1, h2⟩
    refine ⟨List.mem_of_getElem? h1, fun e he hab => ?_⟩
    obtain ⟨k, hk⟩ := List.mem_iff_getElem?.1 he
    have hkl := (List.getElem?_eq_some_iff.1 hk).1
    by_cases ek : i = k
    · subst ek; rw [hk] at h1; cases h1; rfl
    · exfalso
      simp only [Bool.not_eq_true', pB, decide_eq_false_iff_not] at h2
      exact h2 ((heU_get hi).2 ⟨k, hkl, (heB_iff h hall hk h1).2 ⟨ek, hab⟩⟩)
  · rintro ⟨h1, h2⟩
    obtain ⟨i, hi⟩ := List.mem_iff_getElem?.1 h1
    have hil := (List.getElem?_eq_some_iff.1 hi).1
    refine ⟨i, hil, hi, ?_⟩
    simp only [Bool.not_eq_true', pB, decide_eq_false_iff_not]
    intro hc
    obtain ⟨k, hkl, hb⟩ := (heU_get hil).1 hc
    obtain ⟨a, hk⟩ : ∃ a, all[k]? = some a := ⟨_, List.getElem?_eq_getElem hkl⟩
    obtain ⟨h3, h4⟩ := (heB_iff h hall hk hi).1 hb
    have e := h2 a (List.mem_of_getElem? hk) h4
    subst e
    exact h3 (up_at hu hi hk)
theorem headsR_eq {l : List Nd} (h : (readE l).2 = 0) {all : List Dig} (hu : Up all) (hall : ∀ d ∈ all, d ∈ idsL l) {In : List Bool} (hb : ∀ d ∈ idsL l, bitAt In l d = true ↔ d ∈ all) : headsR l all = headsL l In :=
  up_eq (selD_up hu) (heads_up h) fun d => by rw [headsR_mem h hu hall, heads_is h hall hb]
end Go.Pl
namespace Go.Proofs.Ytecolkngbcgmcaa
open Go.RowKit Go.Fw Go.Pl Go.Sort
theorem rFindIn_any (u : Value) (l : List NdV) (d : Dig) (w : World) (hl : Nds w u l) (hd : d ∈ idsL (ndsL l)) : Calls Try.prog 26 #[u, digV d] w (Ret fun v w' => v = .int .i64 ((ixN (ndsL l) d : Nat) : Int) ∧ Ext w w') := by
  have := rFind_any u l d w hl
  rwa [findI_in hd] at this

set_option maxHeartbeats 1000000 in
theorem rmarks_any (u v0 : Value) (l : List NdV) (ids : List Dig) (w : World) (hl : Nds w u l) (hok : (readE (ndsL l)).2 = 0) (hd : Sl w digC 32 v0 ids) (hin : ∀ d ∈ ids, d ∈ idsL (ndsL l)) : Calls Try.prog 38 #[u, v0] w (Ret fun v w' => ∃ b, v = .slice (some ⟨b, 0, none⟩) l.length l.length ∧ w.heap.size ≤ b ∧ Blk w' b TBo (boolC (markF (ndsL l) ids)) ∧ Ext w w') := by
  have hl0 := hl
  obtain ⟨A, c, rfl, hmc, hcm⟩ := hl.sl.lens
  unfold maxLen at hcm
  have hd0 := hd
  obtain ⟨A1, c1, rfl, hdc, hdx⟩ := hd.lens
  unfold maxLen at hdx
  have hnl : (ndsL l).length = l.length := by simp
  have hln := ok_len hok
  obtain ⟨bi, hbi, hbz, hbs, hbb⟩ := info_boolT
  refine calls_of_CW 62 [4] [(0, .slice A l.length c), (1, .slice A1 ids.length c1)] Try.func38 rfl rfl rfl (by simp) args2 ?_
  have hE : Ext w w := Chg.refl
  refine CW.seq fun K1 hK1 => ?_
  refine CW.region ?_   -- region 0
  refine WL.val (Y.assign rfl) (by decide) ?_   -- t4 := assign c(nilslice)
  refine WL.nil ?_
  refine hK1 _ _ ?_; try clear hK1 K1
  refine CW.seq fun K2 hK2 => ?_
  refine CW.region ?_   -- region 1
  refine WL.val (Y.move rfl) (by decide) ?_   -- t9 := move t0
  refine WL.val (Y.len_slice Try.underlying22 rfl) (by decide) ?_   -- t10 := call len(t9) : 22
  refine WL.st (St.makeB Try.underlying58 hbi hbz hbs hbb rfl rfl (by omega)) (by decide) fun v11 w1 hR1 => ?_   -- t11 := makeSlice 58 t10 t10
  obtain ⟨b, rfl, hb, hIn, hx1⟩ := hR1
  have hz1 := hx1.size
  have hE := hE.thenExt hx1
  have hltb := hIn.lt
  refine WL.val (Y.assign rfl) (by decide) ?_   -- t5 := assign t11
  refine WL.nil ?_
  refine hK2 _ _ ?_; try clear hK2 K2
  refine CW.seq fun K3 hK3 => ?_
  refine CW.seq fun K4 hK4 => ?_
  refine CW.region ?_   -- region 2
  refine WL.val (Y.assign rfl) (by decide) ?_   -- t6 := assign c(0:i64)
  refine WL.nil ?_
  refine hK4 _ _ ?_; try clear hK4 K4
  refine CW.block ?_   -- block 0
  refine CW.loop (X := Nat) (fun x => [(0, .slice A l.length c), (1, .slice A1 ids.length c1), (5, .slice (some ⟨b, 0, none⟩) l.length l.length), (6, .int .i64 (x : Int))]) (fun x w0 => x ≤ ids.length ∧ Blk w0 b TBo (boolC (setAll (ndsL l) (List.replicate l.length false) (ids.take x))) ∧ Ext w w0) (fun x => ids.length - x) 0 (by repeat (first | exact Fr.le.nil | refine Fr.le.cons rfl ?_)) ⟨Nat.zero_le _, by simpa [setAll] using hIn, hE⟩ ?_
  intro x w2 hl2
  clear hE hIn
  obtain ⟨hxl, hIn, hE⟩ := hl2
  refine CW.seq fun K5 hK5 => ?_
  refine CW.seq fun K6 hK6 => ?_
  refine CW.region ?_   -- region 3
  refine WL.val (Y.move rfl) (by decide) ?_   -- t12 := move t6
  refine WL.val (Y.move rfl) (by decide) ?_   -- t13 := move t1
  refine WL.val (Y.len_slice Try.underlying23 rfl) (by decide) ?_   -- t14 := call len(t13) : 23
  refine WL.val (Y.lss rfl rfl) (by decide) ?_   -- t15 := binOp lss 3 t12 t14 3
  refine WL.nil ?_
  refine hK6 _ _ ?_; try clear hK6 K6
  first | refine CW.condD rfl (fun ht7 => ?_) (fun ht7 => ?_) | refine CW.condND rfl (fun ht7 => ?_) (fun ht7 => ?_) | refine CW.condN rfl (fun ht7 => ?_) (fun ht7 => ?_) | refine CW.cond rfl (fun ht7 => ?_) (fun ht7 => ?_)
  · -- then
    refine CW.skip ?_
    refine hK5 _ _ ?_; try clear hK5 K5
    refine CW.seq fun K8 hK8 => ?_
    refine CW.block ?_   -- block 1
    obtain ⟨d, hdi⟩ : ∃ d, ids[x]? = some d := ⟨_, List.getElem?_eq_getElem (by omega)⟩
    obtain ⟨a1, rfl, hma⟩ := hd0.at hdi
    have hdin := hin d (List.mem_of_getElem? hdi)
    have hix := ixN_lt hdin
    obtain ⟨cb, hcb⟩ : ∃ cb, (setAll (ndsL l) (List.replicate l.length false) (ids.take x))[ixN (ndsL l) d]? = some cb := ⟨_, List.getElem?_eq_getElem (by rw [setAll_length, List.length_replicate]; omega)⟩
    refine CW.region ?_   -- region 5
    refine WL.val (Y.move rfl) (by decide) ?_   -- t18 := move t5
    refine WL.val (Y.move rfl) (by decide) ?_   -- t19 := move t0
    refine WL.val (Y.move rfl) (by decide) ?_   -- t20 := move t1
    refine WL.val (Y.move rfl) (by decide) ?_   -- t21 := move t6
    refine WL.val (Y.indexAddrN Try.underlying23 rfl rfl sz0_apiDigest (by omega)) (by decide) ?_   -- t22 := indexAddr 23 t20 t21
    refine WL.val (Y.load Try.underlying45 rfl (hma.ext hE) (sz_apiDigest _) rfl) (by decide) ?_   -- t23 := load 45 t22
    refine WL.call Try.func26 rfl rfl rfl (rFindIn_any _ l d _ (hl0.ext hE) hdin) (by simp) ?_; rintro v w3 ⟨rfl, hx3⟩; have hz3 := hx3.size; have hE := hE.thenExt hx3   -- t24 := call F26(t19, t23) : 22,45
    refine WL.val (Y.indexAddrN Try.underlying58 rfl rfl sz0_bool (by omega)) (by decide) ?_   -- t25 := indexAddr 58 t18 t24
    refine WL.storeB rfl rfl rfl sz_bool (hIn.ext hx3) hcb (fun w4 hc4 hB4_ => ?_)   -- _ := store 4 t25 c(true)
    have hz4 := hc4.size; have hE := hE.step hc4 (fun k h => by omega)
    skip
    refine WL.nil ?_
    refine hK8 _ _ ?_; try clear hK8 K8
    refine CW.region ?_   -- region 4
    refine WL.val (Y.move rfl) (by decide) ?_   -- t16 := move t6
    refine WL.val (Y.add rfl rfl ⟨by omega, by omega⟩) (by decide) ?_   -- t17 := binOp add 3 t16 c(1:i64) 3
    refine WL.val (Y.assign rfl) (by decide) ?_   -- t6 := assign t17
    refine WL.nil ?_
    refine ⟨x + 1, by show ids.length - (x + 1) < ids.length - x; omega, (by repeat (first | exact Fr.le.nil | refine Fr.le.cons rfl ?_)), by show x + 1 ≤ ids.length; omega, ?_, hE⟩
    show Blk _ _ _ (boolC (setAll _ _ (ids.take (x + 1))))
    rw [take_succ hdi, setAll_app]
    exact hB4_
  -- else
  refine CW.exit ?_   -- exit 0
  refine hK3 _ _ ?_; try clear hK3 K3
  refine CW.seq fun K9 hK9 => ?_
  refine CW.seq fun K10 hK10 => ?_
  refine CW.region ?_   -- region 6
  refine WL.val (Y.move rfl) (by decide) ?_   -- t26 := move t0
  refine WL.val (Y.len_slice Try.underlying22 rfl) (by decide) ?_   -- t27 := call len(t26) : 22
  refine WL.val (Y.sub rfl rfl ⟨by omega, by omega⟩) (by decide) ?_   -- t28 := binOp sub 3 t27 c(1:i64) 3
  refine WL.val (Y.assign rfl) (by decide) ?_   -- t7 := assign t28
  refine WL.nil ?_
  refine hK10 _ _ ?_; try clear hK10 K10
  refine CW.block ?_   -- block 2
  refine CW.loop (X := Nat × List Bool) (fun x => [(0, .slice A l.length c), (5, .slice (some ⟨b, 0, none⟩) l.length l.length), (7, .int .i64 ((x.1 : Int) - 1))]) (fun x w0 => x.1 ≤ l.length ∧ x.2.length = l.length ∧ Blk w0 b TBo (boolC x.2) ∧ markF (ndsL l) ids = markD (ndsL l) x.1 x.2 ∧ Ext w w0) (fun x => x.1) (l.length, mark0 (ndsL l) ids) (by repeat (first | exact Fr.le.nil | refine Fr.le.cons rfl ?_)) ⟨Nat.le_refl _, by rw [mark0_length, hnl], by rw [mark0, hnl]; rw [List.take_of_length_le (by omega)] at hIn; exact hIn, by rw [markF, hnl], hE⟩ ?_
  intro x w5 hl5
  clear hE hIn
  obtain ⟨k, S⟩ := x
  dsimp only at hl5 ⊢
  obtain ⟨hkl, hSl, hIn, hmk, hE⟩ := hl5
  refine CW.seq fun K11 hK11 => ?_
  refine CW.seq fun K12 hK12 => ?_
  refine CW.region ?_   -- region 7
  refine WL.val (Y.move rfl) (by decide) ?_   -- t29 := move t7
  refine WL.val (Y.geq rfl rfl) (by decide) ?_   -- t30 := binOp geq 3 t29 c(0:i64) 3
  refine WL.nil ?_
  refine hK12 _ _ ?_; try clear hK12 K12
  first | refine CW.condD rfl (fun ht13 => ?_) (fun ht13 => ?_) | refine CW.condND rfl (fun ht13 => ?_) (fun ht13 => ?_) | refine CW.condN rfl (fun ht13 => ?_) (fun ht13 => ?_) | refine CW.cond rfl (fun ht13 => ?_) (fun ht13 => ?_)
  · -- then
    refine CW.skip ?_
    refine hK11 _ _ ?_; try clear hK11 K11
    obtain ⟨i, rfl⟩ : ∃ i, k = i + 1 := ⟨k - 1, by omega⟩
    rw [show (((i + 1 : Nat) : Int) - 1) = (i : Int) by omega]
    obtain ⟨y, hy⟩ : ∃ y, l[i]? = some y := ⟨_, List.getElem?_eq_getElem (by omega)⟩
    obtain ⟨⟨id, ps⟩, Ay, cy⟩ := y
    have hyn : (ndsL l)[i]? = some ⟨id, ps⟩ := by simp [hy]
    obtain ⟨ci, hci⟩ : ∃ c, S[i]? = some c := ⟨_, List.getElem?_eq_getElem (by omega)⟩
    obtain ⟨a, rfl, hma⟩ := hl0.sl.at hy
    have hps0 := hl0.ps _ (List.mem_of_getElem? hy)
    dsimp only [NdV.pv] at hps0
    have hps1 := hps0
    obtain ⟨_, _, _, he_, _, hcy, hcy2, _⟩ := hps1
    cases he_
    unfold maxLen at hcy2
    refine CW.seq fun K14 hK14 => ?_
    refine CW.block ?_   -- block 3
    refine CW.seq fun K15 hK15 => ?_
    refine CW.region ?_   -- region 9
    refine WL.val (Y.assign rfl) (by decide) ?_   -- t8 := assign c(0:i64)
    refine WL.nil ?_
    refine hK15 _ _ ?_; try clear hK15 K15
    refine CW.block ?_   -- block 4
    refine CW.loop (X := Nat × List Bool) (fun x => [(0, .slice (some a) l.length c), (5, .slice (some ⟨b, 0, none⟩) l.length l.length), (7, .int .i64 (i : Int)), (8, .int .i64 (x.1 : Int))]) (fun x w0 => x.1 ≤ ps.length ∧ (0 < x.1 → S[i]? = some true) ∧ x.2 = setAll (ndsL l) S (ps.take x.1) ∧ x.2.length = l.length ∧ x.2[i]? = some ci ∧ Blk w0 b TBo (boolC x.2) ∧ Ext w w0) (fun x => ps.length - x.1) (0, S) (by repeat (first | exact Fr.le.nil | refine Fr.le.cons rfl ?_)) ⟨Nat.zero_le _, (fun h => absurd h (Nat.lt_irrefl 0)), by simp [setAll], hSl, hci, hIn, hE⟩ ?_
    intro x w6 hl6
    clear hE hIn
    obtain ⟨x, S2⟩ := x
    dsimp only at hl6 ⊢
    obtain ⟨hxl, hx0, hS2, hS2l, hS2i, hIn, hE⟩ := hl6
    refine CW.seq fun K16 hK16 => ?_
    refine CW.seq_test 46 (x < ps.length ∧ ci = true) ?_ ?_
    · refine CW.region ?_
      refine WL.val (Y.move rfl) (by decide) ?_   -- t33 := move t8
      refine WL.val (Y.move rfl) (by decide) ?_   -- t34 := move t0
      refine WL.val (Y.move rfl) (by decide) ?_   -- t35 := move t7
      refine WL.val (Y.indexAddrN Try.underlying22 rfl rfl sz0_apiNode (by omega)) (by decide) ?_   -- t36 := indexAddr 22 t34 t35
      refine WL.val (Y.fieldAddr fo_apiNode1 rfl) (by decide) ?_   -- t37 := fieldAddr 48 t36 1
      refine WL.val (Y.load1 Try.underlying23 rfl (hma.ext hE).node1 rfl) (by decide) ?_   -- t38 := load 23 t37
      refine WL.val (Y.len_slice Try.underlying23 rfl) (by decide) ?_   -- t39 := call len(t38) : 23
      refine WL.val (Y.lss rfl rfl) (by decide) ?_   -- t40 := binOp lss 3 t33 t39 3
      refine WL.val (Y.move rfl) (by decide) ?_   -- t41 := move t40
      first | refine WL.casesD (d := 41) rfl (fun hg41 => ?_) (fun hg41 => ?_) | refine WL.casesND (d := 41) rfl (fun hg41 => ?_) (fun hg41 => ?_) | refine WL.cases (d := 41) rfl (fun hg41 => ?_) (fun hg41 => ?_)
      · -- t41 = T
        refine WL.gval rfl rfl (Y.move rfl) (by decide) ?_   -- t42 := move t5 [if 8=true]
        refine WL.gval rfl rfl (Y.move rfl) (by decide) ?_   -- t43 := move t7 [if 8=true]
        refine WL.gval rfl rfl (Y.indexAddrN Try.underlying58 rfl rfl sz0_bool (by omega)) (by decide) ?_   -- t44 := indexAddr 58 t42 t43 [if 8=true]
        refine WL.gval rfl rfl (Y.load1 Try.underlying4 rfl (hIn.bcell hS2i) rfl) (by decide) ?_   -- t45 := load 4 t44 [if 8=true]
        refine WL.val (Y.pick rfl rfl) (by decide) ?_   -- t46 := pick t41 t45 c(false)
        refine WL.nil ⟨⟨_, rfl, ?_⟩, rfl, (by repeat (first | exact Fr.le.refl | refine Fr.le.push rfl ?_))⟩
        first | (simp only [*, Int.natCast_inj, Bool.not_eq_true', decide_eq_false_iff_not, decide_eq_true_eq, not_true_eq_false, not_false_eq_true, true_and, false_and, and_true, and_false, false_or, or_false, true_or, or_true, iff_true, true_iff, iff_false, false_iff]; done) | (simp_all; done) | (refine congrArg Value.bool (Bool.eq_iff_iff.2 ?_); simp_all; done) | (simp_all; omega)
      · -- t41 = F
        refine WL.goff rfl rfl (by decide) ?_   -- t42 := move t5 [if 8=true]
        refine WL.goff rfl rfl (by decide) ?_   -- t43 := move t7 [if 8=true]
        refine WL.goff rfl rfl (by decide) ?_   -- t44 := indexAddr 58 t42 t43 [if 8=true]
        refine WL.goff rfl rfl (by decide) ?_   -- t45 := load 4 t44 [if 8=true]
        refine WL.val (Y.pick rfl rfl) (by decide) ?_   -- t46 := pick t41 t45 c(false)
        refine WL.nil ⟨⟨_, rfl, ?_⟩, rfl, (by repeat (first | exact Fr.le.refl | refine Fr.le.push rfl ?_))⟩
        first | (simp only [*, Int.natCast_inj, Bool.not_eq_true', decide_eq_false_iff_not, decide_eq_true_eq, not_true_eq_false, not_false_eq_true, true_and, false_and, and_true, and_false, false_or, or_false, true_or, or_true, iff_true, true_iff, iff_false, false_iff]; done) | (simp_all; done) | (refine congrArg Value.bool (Bool.eq_iff_iff.2 ?_); simp_all; done) | (simp_all; omega)
    first | refine CW.condD rfl (fun ht17 => ?_) (fun ht17 => ?_) | refine CW.condND rfl (fun ht17 => ?_) (fun ht17 => ?_) | refine CW.condN rfl (fun ht17 => ?_) (fun ht17 => ?_) | refine CW.cond rfl (fun ht17 => ?_) (fun ht17 => ?_)
    · -- then
      refine CW.skip ?_
      refine hK16 _ _ ?_; try clear hK16 K16
      refine CW.seq fun K18 hK18 => ?_
      refine CW.block ?_   -- block 5
      obtain ⟨d, hd⟩ : ∃ d, ps[x]? = some d := ⟨_, List.getElem?_eq_getElem (by omega)⟩
      obtain ⟨a2, rfl, hma2⟩ := hps0.at hd
      have hdi := (ix_par hok hyn (List.mem_of_getElem? hd)).1
      have hix := ixN_lt hdi
      obtain ⟨cb2, hcb2⟩ : ∃ cb, S2[ixN (ndsL l) d]? = some cb := ⟨_, List.getElem?_eq_getElem (by omega)⟩
      refine CW.region ?_   -- region 12
      refine WL.val (Y.move rfl) (by decide) ?_   -- t49 := move t5
      refine WL.val (Y.move rfl) (by decide) ?_   -- t50 := move t0
      refine WL.val (Y.move rfl) (by decide) ?_   -- t51 := move t0
      refine WL.val (Y.move rfl) (by decide) ?_   -- t52 := move t7
      refine WL.val (Y.indexAddrN Try.underlying22 rfl rfl sz0_apiNode (by omega)) (by decide) ?_   -- t53 := indexAddr 22 t51 t52
      refine WL.val (Y.fieldAddr fo_apiNode1 rfl) (by decide) ?_   -- t54 := fieldAddr 48 t53 1
      refine WL.val (Y.load1 Try.underlying23 rfl (hma.ext hE).node1 rfl) (by decide) ?_   -- t55 := load 23 t54
      refine WL.val (Y.move rfl) (by decide) ?_   -- t56 := move t8
      refine WL.val (Y.indexAddrN Try.underlying23 rfl rfl sz0_apiDigest (by omega)) (by decide) ?_   -- t57 := indexAddr 23 t55 t56
      refine WL.val (Y.load Try.underlying45 rfl (hma2.ext hE) (sz_apiDigest _) rfl) (by decide) ?_   -- t58 := load 45 t57
      refine WL.call Try.func26 rfl rfl rfl (rFindIn_any _ l d _ (hl0.ext hE) hdi) (by simp) ?_; rintro v w7 ⟨rfl, hx7⟩; have hz7 := hx7.size; have hE := hE.thenExt hx7   -- t59 := call F26(t50, t58) : 22,45
      refine WL.val (Y.indexAddrN Try.underlying58 rfl rfl sz0_bool (by omega)) (by decide) ?_   -- t60 := indexAddr 58 t49 t59
      refine WL.storeB rfl rfl rfl sz_bool (hIn.ext hx7) hcb2 (fun w8 hc8 hB8_ => ?_)   -- _ := store 4 t60 c(true)
      have hz8 := hc8.size; have hE := hE.step hc8 (fun k h => by omega)
      skip
      refine WL.nil ?_
      refine hK18 _ _ ?_; try clear hK18 K18
      refine CW.region ?_   -- region 11
      refine WL.val (Y.move rfl) (by decide) ?_   -- t47 := move t8
      refine WL.val (Y.add rfl rfl ⟨by omega, by omega⟩) (by decide) ?_   -- t48 := binOp add 3 t47 c(1:i64) 3
      refine WL.val (Y.assign rfl) (by decide) ?_   -- t8 := assign t48
      refine WL.nil ?_
      refine ⟨(x + 1, S2.set (ixN (ndsL l) d) true), by show ps.length - (x + 1) < ps.length - x; omega, (by repeat (first | exact Fr.le.nil | refine Fr.le.cons rfl ?_)), by show x + 1 ≤ ps.length; omega, fun _ => ?_, ?_, by simp [hS2l], ?_, hB8_, hE⟩
      · rw [hci]; simp_all
      · show _ = setAll _ _ (ps.take (x + 1))
        rw [take_succ hd, setAll_app, hS2]
      · have hci2 : ci = true := by simp_all
        show (S2.set _ true)[i]? = _
        rw [List.getElem?_set]
        split
        · rw [if_pos (by omega), hci2]
        · exact hS2i
    -- else
    refine CW.exit ?_   -- exit 4
    refine hK14 _ _ ?_; try clear hK14 K14
    refine CW.region ?_   -- region 8
    refine WL.val (Y.move rfl) (by decide) ?_   -- t31 := move t7
    refine WL.val (Y.sub rfl rfl ⟨by omega, by omega⟩) (by decide) ?_   -- t32 := binOp sub 3 t31 c(1:i64) 3
    refine WL.val (Y.assign rfl) (by decide) ?_   -- t7 := assign t32
    refine WL.nil ?_
    have hupd : S2 = upd (ndsL l) S i := by
      by_cases hc : ci = true
      · have hxp : x = ps.length := by
          have : ¬ (x < ps.length ∧ ci = true) := by assumption
          simp only [hc, and_true] at this; omega
        subst hxp
        rw [hS2, List.take_length, upd_yes hyn (by rw [hci, hc])]
      · have hx00 : x = 0 := by
          rcases Nat.eq_zero_or_pos x with h | h
          · exact h
          · have := hx0 h; rw [hci] at this; simp_all
        subst hx00
        rw [upd_no (by rw [hci]; simp [hc]), hS2]; simp [setAll]
    exact ⟨(i, S2), by show i < i + 1; omega, (by repeat (first | exact Fr.le.nil | refine Fr.le.cons rfl ?_)), by show i ≤ l.length; omega, hS2l, hIn, by show _ = markD _ i S2; rw [hmk, markD, hupd], hE⟩
  -- else
  refine CW.exit ?_   -- exit 2
  refine hK9 _ _ ?_; try clear hK9 K9
  refine CW.seq fun K19 hK19 => ?_
  refine CW.region ?_   -- region 13
  refine WL.val (Y.move rfl) (by decide) ?_   -- t61 := move t5
  refine WL.val (Y.assign rfl) (by decide) ?_   -- t4 := assign t61
  refine WL.nil ?_
  refine hK19 _ _ ?_; try clear hK19 K19
  refine CW.ret ⟨_, rfl, ?_⟩
  refine ⟨b, rfl, hb, ?_, hE⟩
  have hk0 : k = 0 := by omega
  subst hk0
  rw [hmk]; exact hIn
set_option maxHeartbeats 1000000 in
theorem rAbove_any (u v0 : Value) (l : List NdV) (ids : List Dig) (w : World) (hl : Nds w u l) (hok : (readE (ndsL l)).2 = 0) (hd : Sl w digC 32 v0 ids) (hin : ∀ d ∈ ids, d ∈ idsL (ndsL l)) : Calls Try.prog 34 #[u, v0] w (Ret fun v w' => Own w' TDg 32 v (flatD (aboveL (ndsL l) ids)) ∧ (∀ k, v.ownBlock = some k → w.heap.size ≤ k) ∧ Ext w w') := by
  have hl0 := hl
  obtain ⟨A, c, rfl, hmc, hcm⟩ := hl.sl.lens
  unfold maxLen at hcm
  have hd0 := hd
  obtain ⟨A1, c1, rfl, hdc, hdx⟩ := hd.lens
  unfold maxLen at hdx
  have hnl : (ndsL l).length = l.length := by simp
  have hln := ok_len hok
  refine calls_of_CW 31 [4] [(0, .slice A l.length c), (1, .slice A1 ids.length c1)] Try.func34 rfl rfl rfl (by simp) args2 ?_
  have hE : Ext w w := Chg.refl
  refine CW.seq fun K1 hK1 => ?_
  refine CW.region ?_   -- region 0
  refine WL.val (Y.assign rfl) (by decide) ?_   -- t4 := assign c(nilslice)
  refine WL.nil ?_
  refine hK1 _ _ ?_; try clear hK1 K1
  refine CW.seq fun K2 hK2 => ?_
  refine CW.region ?_   -- region 1
  refine WL.val (Y.move rfl) (by decide) ?_   -- t8 := move t0
  refine WL.val (Y.move rfl) (by decide) ?_   -- t9 := move t1
  refine WL.call Try.func38 rfl rfl rfl (rmarks_any _ _ l ids _ hl0 hok hd0 hin) (by simp) ?_; rintro v10 w1 hR1   -- t10 := call F38(t8, t9) : 22,23
  obtain ⟨b, rfl, hb, hIn, hx1⟩ := hR1
  have hz1 := hx1.size
  have hE := hE.thenExt hx1
  have hltb := hIn.lt
  obtain ⟨S, hS⟩ : ∃ S, S = markF (ndsL l) ids := ⟨_, rfl⟩
  have hSl : S.length = l.length := by rw [hS, markF_length, hnl]
  rw [← hS] at hIn
  refine WL.val (Y.assign rfl) (by decide) ?_   -- t5 := assign t10
  refine WL.nil ?_
  refine hK2 _ _ ?_; try clear hK2 K2
  refine CW.seq fun K3 hK3 => ?_
  refine CW.region ?_   -- region 2
  refine WL.val (Y.assign rfl) (by decide) ?_   -- t6 := assign c(nilslice)
  refine WL.nil ?_
  refine hK3 _ _ ?_; try clear hK3 K3
  refine CW.seq fun K4 hK4 => ?_
  refine CW.seq fun K5 hK5 => ?_
  refine CW.region ?_   -- region 3
  refine WL.val (Y.assign rfl) (by decide) ?_   -- t7 := assign c(0:i64)
  refine WL.nil ?_
  refine hK5 _ _ ?_; try clear hK5 K5
  refine CW.block ?_   -- block 0
  refine CW.loop (X := Nat × Value) (fun x => [(0, .slice A l.length c), (5, .slice (some ⟨b, 0, none⟩) l.length l.length), (6, x.2), (7, .int .i64 (x.1 : Int))]) (fun x w0 => x.1 ≤ l.length ∧ Own w0 TDg 32 x.2 (flatD (selD (pB S) (idsL (ndsL l)) x.1)) ∧ ((∀ k, x.2.ownBlock = some k → w.heap.size ≤ k) ∧ (∀ k, x.2.ownBlock = some k → k ≠ b)) ∧ Blk w0 b TBo (boolC S) ∧ Ext w w0) (fun x => l.length - x.1) (0, .slice none 0 0) (by repeat (first | exact Fr.le.nil | refine Fr.le.cons rfl ?_)) ⟨Nat.zero_le _, Own.nil, ⟨(fun k h => by simp [Value.ownBlock] at h), (fun k h => by simp [Value.ownBlock] at h)⟩, hIn, hE⟩ ?_
  intro x w2 hl2
  clear hE hIn
  obtain ⟨i, v⟩ := x
  dsimp only at hl2 ⊢
  obtain ⟨hil, hO, ⟨hfu, hfv⟩, hIn, hE⟩ := hl2
  have hol := selD_len (p := pB S) (all := idsL (ndsL l)) (k := i)
  obtain ⟨B, mb, cb, rfl⟩ := hO.lens
  have hlo := hO.lt
  have hltb2 := hIn.lt
  have hzE := hE.size
  refine CW.seq fun K6 hK6 => ?_
  refine CW.seq fun K7 hK7 => ?_
  refine CW.region ?_   -- region 4
  refine WL.val (Y.move rfl) (by decide) ?_   -- t11 := move t7
  refine WL.val (Y.move rfl) (by decide) ?_   -- t12 := move t0
  refine WL.val (Y.len_slice Try.underlying22 rfl) (by decide) ?_   -- t13 := call len(t12) : 22
  refine WL.val (Y.lss rfl rfl) (by decide) ?_   -- t14 := binOp lss 3 t11 t13 3
  refine WL.nil ?_
  refine hK7 _ _ ?_; try clear hK7 K7
  first | refine CW.condD rfl (fun ht8 => ?_) (fun ht8 => ?_) | refine CW.condND rfl (fun ht8 => ?_) (fun ht8 => ?_) | refine CW.condN rfl (fun ht8 => ?_) (fun ht8 => ?_) | refine CW.cond rfl (fun ht8 => ?_) (fun ht8 => ?_)
  · -- then
    refine CW.skip ?_
    refine hK6 _ _ ?_; try clear hK6 K6
    obtain ⟨y, hy⟩ : ∃ y, l[i]? = some y := ⟨_, List.getElem?_eq_getElem (by omega)⟩
    obtain ⟨⟨id, ps⟩, Ay, cy⟩ := y
    have hyn : (ndsL l)[i]? = some ⟨id, ps⟩ := by simp [hy]
    have hsel := selD_at (p := pB S) (ids_at hyn)
    obtain ⟨ci, hci⟩ : ∃ c, S[i]? = some c := ⟨_, List.getElem?_eq_getElem (by omega)⟩
    obtain ⟨a, rfl, hma⟩ := hl0.sl.at hy
    refine CW.seq_to (X := Value) (fun u => [(0, .slice (some a) l.length c), (5, .slice (some ⟨b, 0, none⟩) l.length l.length), (6, u), (7, .int .i64 (i : Int))]) (fun u w0 => Own w0 TDg 32 u (flatD (selD (pB S) (idsL (ndsL l)) (i + 1))) ∧ ((∀ k, u.ownBlock = some k → w.heap.size ≤ k) ∧ (∀ k, u.ownBlock = some k → k ≠ b)) ∧ Blk w0 b TBo (boolC S) ∧ Ext w w0) ?_ ?_
    · skip
      refine CW.block ?_   -- block 1
      refine CW.seq fun K10 hK10 => ?_
      refine CW.region ?_   -- region 6
      refine WL.val (Y.move rfl) (by decide) ?_   -- t17 := move t5
      refine WL.val (Y.move rfl) (by decide) ?_   -- t18 := move t7
      refine WL.val (Y.indexAddrN Try.underlying58 rfl rfl sz0_bool (by omega)) (by decide) ?_   -- t19 := indexAddr 58 t17 t18
      refine WL.val (Y.load1 Try.underlying4 rfl (hIn.bcell hci) rfl) (by decide) ?_   -- t20 := load 4 t19
      refine WL.nil ?_
      refine hK10 _ _ ?_; try clear hK10 K10
      first | refine CW.condD rfl (fun ht11 => ?_) (fun ht11 => ?_) | refine CW.condND rfl (fun ht11 => ?_) (fun ht11 => ?_) | refine CW.condN rfl (fun ht11 => ?_) (fun ht11 => ?_) | refine CW.cond rfl (fun ht11 => ?_) (fun ht11 => ?_)
      · -- then
        refine CW.region ?_   -- region 7
        refine WL.val (Y.move rfl) (by decide) ?_   -- t21 := move t6
        refine WL.val (Y.move rfl) (by decide) ?_   -- t22 := move t0
        refine WL.val (Y.move rfl) (by decide) ?_   -- t23 := move t7
        refine WL.val (Y.indexAddrN Try.underlying22 rfl rfl sz0_apiNode (by omega)) (by decide) ?_   -- t24 := indexAddr 22 t22 t23
        refine WL.val (Y.fieldAddr fo_apiNode0 rfl) (by decide) ?_   -- t25 := fieldAddr 48 t24 0
        refine WL.val (Y.load Try.underlying45 rfl (hma.ext hE).node0 (sz_apiDigest _) rfl) (by decide) ?_   -- t26 := load 45 t25
        refine WL.st (St.buildSlice rfl (bs1_dig _)) (by decide) fun v27 w3 hR3 => ?_   -- t27 := buildSlice 23 1 [(0,t26)]
        obtain ⟨gg, rfl, hgg, hBg, hx3⟩ := hR3
        have hz3 := hx3.size
        have hE := hE.thenExt hx3
        have hIn := hIn.ext hx3
        refine WL.st (St.append Try.underlying23 Try.underlying23 ai_dig rfl rfl (hO.ext hx3) (Src.one hBg (digC_length _)) one_digC (by rw [flat_length digC_length]; omega)) (by decide) fun v28 w4 hR4 => ?_   -- t28 := call append(t21, t27) : 23,23
        obtain ⟨hO4, hc4, hf4⟩ := hR4
        have hR4x := hf4
        have hz4 := hc4.size
        have hE := hE.step hc4 (fun k h => by have := hfu k h; omega)
        have hf4 : ∀ k, v28.ownBlock = some k → w.heap.size ≤ k := by
          rcases hf4 with h | h
          · intro k hk; rw [h] at hk; exact hfu k hk
          · intro k hk; have := h k hk; omega
        have hIn := hIn.chg hc4 (fun h => by have := hfv _ h; omega)
        refine WL.val (Y.assign rfl) (by decide) ?_   -- t6 := assign t28
        refine WL.nil ?_
        exact ⟨v28, (by repeat (first | exact Fr.le.nil | refine Fr.le.cons rfl ?_)), by rw [hsel, if_pos (decide_eq_true (by rw [hci]; simp_all))]; simpa [flatD] using hO4, ⟨hf4, fun k hk => by rcases hR4x with h | h; rw [h] at hk; exact hfv k hk; have := h k hk; omega⟩, hIn, hE⟩
      -- else
      refine CW.skip ?_
      exact ⟨.slice B mb cb, (by repeat (first | exact Fr.le.nil | refine Fr.le.cons rfl ?_)), by rw [hsel, if_neg (by simp [pB, hci]; simp_all)]; exact hO, ⟨hfu, hfv⟩, hIn, hE⟩
    rintro u w5 hj5
    clear hE hIn hO hfu hfv
    obtain ⟨hO, hfu, hIn, hE⟩ := hj5
    refine CW.region ?_   -- region 5
    refine WL.val (Y.move rfl) (by decide) ?_   -- t15 := move t7
    refine WL.val (Y.add rfl rfl ⟨by omega, by omega⟩) (by decide) ?_   -- t16 := binOp add 3 t15 c(1:i64) 3
    refine WL.val (Y.assign rfl) (by decide) ?_   -- t7 := assign t16
    refine WL.nil ?_
    exact ⟨(i + 1, u), by show l.length - (i + 1) < l.length - i; omega, (by repeat (first | exact Fr.le.nil | refine Fr.le.cons rfl ?_)), by show i + 1 ≤ l.length; omega, hO, hfu, hIn, hE⟩
  -- else
  refine CW.exit ?_   -- exit 0
  refine hK4 _ _ ?_; try clear hK4 K4
  refine CW.seq fun K12 hK12 => ?_
  refine CW.region ?_   -- region 8
  refine WL.val (Y.move rfl) (by decide) ?_   -- t29 := move t6
  refine WL.call Try.func37 rfl rfl rfl (sorted_any _ _ _ (hO.sl digC_length (by decide)) (by omega)) (by simp) ?_; rintro v30 w6 hR6   -- t30 := call F37(t29) : 23
  obtain ⟨hO6, hf6, hx6⟩ := hR6
  have hz6 := hx6.size
  have hE := hE.thenExt hx6
  refine WL.val (Y.assign rfl) (by decide) ?_   -- t4 := assign t30
  refine WL.nil ?_
  refine hK12 _ _ ?_; try clear hK12 K12
  refine CW.ret ⟨_, rfl, ?_⟩
  have hil2 : i = l.length := by omega
  subst hil2
  rw [show l.length = (ndsL l).length by simp, hS, aboveR_eq hok hin] at hO6
  exact ⟨hO6, fun k hk => by have := hf6 k hk; omega, hE⟩
end Go.Proofs.Ytecolkngbcgmcaa

/- The reference's In, both, Heads, Common, Within, walked. No condition. -/
namespace Go.Fw
open Go.RowKit
theorem Sl.cut {α : Type} {w : World} {enc : α → List Value} {k : Nat} {a : Addr} {m c i j : Nat} {xs : List α} (h : Sl w enc k (.slice (some a) m c) xs) (hij : i ≤ j) (hj : j ≤ m) : Sl w enc k (.slice (some (if c = i then a else a.add (i * k))) (j - i) (c - i)) ((xs.drop i).take (j - i)) := by
  obtain ⟨A, m', c', he, hl, hmc, hcm, hx⟩ := h
  cases he
  refine ⟨_, _, _, rfl, by simp; omega, by omega, by omega, fun q x hq => ⟨_, rfl, ?_⟩⟩
  rw [List.getElem?_take] at hq
  split at hq
  · rw [List.getElem?_drop] at hq
    have hlt := (List.getElem?_eq_some_iff.1 hq).1
    obtain ⟨a', ha, hm⟩ := hx _ _ hq
    cases ha
    rw [if_neg (by omega), add_add, ← Nat.add_mul]
    exact hm
  · cases hq
end Go.Fw
namespace Go.Proofs.Ytecolkngbcgmcaa
open Go.RowKit Go.Fw Go.Pl Go.Sort

theorem rIn_any (u : Value) (l : List Dig) (d : Dig) (w : World) (hd : Sl w digC 32 u l) : Calls Try.prog 27 #[u, digV d] w (Ret fun v w' => v = .bool (decide (d ∈ l)) ∧ Ext w w') := by
  have hd0 := hd
  obtain ⟨A1, c1, rfl, hdc, hdx⟩ := hd.lens
  unfold maxLen at hdx
  
  refine calls_of_CW 18 [4] [(0, .slice A1 l.length c1), (1, digV d)] Try.func27 rfl rfl rfl (by simp) args2 ?_
  have hE : Ext w w := Chg.refl
  refine CW.seq fun K1 hK1 => ?_
  refine CW.region ?_   -- region 0
  refine WL.box rfl rfl (by decide) fun g3 w1 hx1 hg3 hB3 => ?_   -- t3 := box 45 t1
  have hlt3 := hB3.lt; have hz1 := hx1.size
  have hM3 := hB3.mem; have hz1 := hx1.size; have hE := hE.thenExt hx1
  refine WL.val (Y.assign rfl) (by decide) ?_   -- t4 := assign c(false)
  refine WL.nil ?_
  refine hK1 _ _ ?_; try clear hK1 K1
  refine CW.seq fun K2 hK2 => ?_
  refine CW.seq fun K3 hK3 => ?_
  refine CW.region ?_   -- region 1
  refine WL.val (Y.assign rfl) (by decide) ?_   -- t5 := assign c(0:i64)
  refine WL.nil ?_
  refine hK3 _ _ ?_; try clear hK3 K3
  refine CW.block ?_   -- block 0
  refine CW.loop (X := Nat) (fun x => [(0, .slice A1 l.length c1), (3, .pointer (some ⟨g3, 0, none⟩)), (5, .int .i64 (x : Int))]) (fun x w0 => x ≤ l.length ∧ (∀ y, y ∈ l.take x → y ≠ d) ∧ Blk w0 g3 TDg (digC d) ∧ Ext w w0) (fun x => l.length - x) 0 (by repeat (first | exact Fr.le.nil | refine Fr.le.cons rfl ?_)) ⟨Nat.zero_le _, (fun y hy => by simp at hy), hB3, hE⟩ ?_
  intro x w2 hl2
  clear hE hB3
  obtain ⟨hxl, hno, hB3, hE⟩ := hl2
  refine CW.seq fun K4 hK4 => ?_
  refine CW.seq fun K5 hK5 => ?_
  refine CW.region ?_   -- region 2
  refine WL.val (Y.move rfl) (by decide) ?_   -- t6 := move t5
  refine WL.val (Y.move rfl) (by decide) ?_   -- t7 := move t0
  refine WL.val (Y.len_slice Try.underlying23 rfl) (by decide) ?_   -- t8 := call len(t7) : 23
  refine WL.val (Y.lss rfl rfl) (by decide) ?_   -- t9 := binOp lss 3 t6 t8 3
  refine WL.nil ?_
  refine hK5 _ _ ?_; try clear hK5 K5
  first | refine CW.condD rfl (fun ht6 => ?_) (fun ht6 => ?_) | refine CW.condND rfl (fun ht6 => ?_) (fun ht6 => ?_) | refine CW.condN rfl (fun ht6 => ?_) (fun ht6 => ?_) | refine CW.cond rfl (fun ht6 => ?_) (fun ht6 => ?_)
  · -- then
    refine CW.skip ?_
    refine hK4 _ _ ?_; try clear hK4 K4
    refine CW.seq fun K7 hK7 => ?_
    refine CW.block ?_   -- block 1
    refine CW.seq fun K8 hK8 => ?_
    obtain ⟨y, hy⟩ : ∃ y, l[x]? = some y := ⟨_, List.getElem?_eq_getElem (by omega)⟩
    obtain ⟨a, rfl, hma⟩ := hd0.at hy
    refine CW.quiet (fun wq => Ext w2 wq) (by kernel_rfl) (by kernel_rfl) Chg.drew ?_
    refine QL.val (fun wq hq => Y.move rfl) (by decide) ?_   -- t12 := move t0
    refine QL.val (fun wq hq => Y.move rfl) (by decide) ?_   -- t13 := move t5
    refine QL.val (fun wq hq => Y.indexAddrN Try.underlying23 rfl rfl sz0_apiDigest (by omega)) (by decide) ?_   -- t14 := indexAddr 23 t12 t13
    refine QL.val (fun wq hq => Y.load Try.underlying45 rfl (hma.ext (hE.thenExt hq)) (sz_apiDigest _) rfl) (by decide) ?_   -- t15 := load 45 t14
    refine QL.val (fun wq hq => Y.load Try.underlying45 rfl (hB3.ext hq).mem (sz_apiDigest _) rfl) (by decide) ?_   -- t16 := load 45 t3
    refine QL.val (fun wq hq => Y.eql_apiDigest rfl rfl) (by decide) ?_   -- t17 := binOp eql 45 t15 t16 45
    refine QL.nil fun w3 hx3 => ?_
    have hz3 := hx3.size
    have hE := hE.thenExt hx3
    have hB3 := hB3.ext hx3
    refine hK8 _ _ ?_; try clear hK8 K8
    first | refine CW.condD rfl (fun ht9 => ?_) (fun ht9 => ?_) | refine CW.condND rfl (fun ht9 => ?_) (fun ht9 => ?_) | refine CW.condN rfl (fun ht9 => ?_) (fun ht9 => ?_) | refine CW.cond rfl (fun ht9 => ?_) (fun ht9 => ?_)
    · -- then
      refine CW.seq fun K10 hK10 => ?_
      refine CW.region ?_   -- region 5
      refine WL.val (Y.assign rfl) (by decide) ?_   -- t4 := assign c(true)
      refine WL.nil ?_
      refine hK10 _ _ ?_; try clear hK10 K10
      refine CW.ret ⟨_, rfl, ?_⟩
      have hyd : y = d := by assumption
      exact ⟨by rw [decide_eq_true (hyd ▸ List.mem_of_getElem? hy)], hE⟩
    -- else
    refine CW.skip ?_
    refine hK7 _ _ ?_; try clear hK7 K7
    refine CW.region ?_   -- region 3
    refine WL.val (Y.move rfl) (by decide) ?_   -- t10 := move t5
    refine WL.val (Y.add rfl rfl ⟨by omega, by omega⟩) (by decide) ?_   -- t11 := binOp add 3 t10 c(1:i64) 3
    refine WL.val (Y.assign rfl) (by decide) ?_   -- t5 := assign t11
    refine WL.nil ?_
    refine ⟨x + 1, by show l.length - (x + 1) < l.length - x; omega, (by repeat (first | exact Fr.le.nil | refine Fr.le.cons rfl ?_)), by show x + 1 ≤ l.length; omega, ?_, hB3, hE⟩
    intro z hz
    rw [take_succ hy] at hz
    rcases List.mem_append.1 hz with hz | hz
    · exact hno z hz
    · simp at hz; subst hz; assumption
  -- else
  refine CW.exit ?_   -- exit 0
  refine hK2 _ _ ?_; try clear hK2 K2
  refine CW.seq fun K11 hK11 => ?_
  refine CW.region ?_   -- region 6
  refine WL.val (Y.assign rfl) (by decide) ?_   -- t4 := assign c(false)
  refine WL.nil ?_
  refine hK11 _ _ ?_; try clear hK11 K11
  refine CW.ret ⟨_, rfl, ?_⟩
  refine ⟨?_, hE⟩
  rw [List.take_of_length_le (by omega)] at hno
  rw [decide_eq_false fun h => hno d h rfl]
theorem rboth_any (u v0 : Value) (a b : List Dig) (w : World) (hl : Sl w digC 32 u a) (hd : Sl w digC 32 v0 b) (hp : a.length * 32 ≤ 140737488351232) : Calls Try.prog 45 #[u, v0] w (Ret fun v w' => Own w' TDg 32 v (flatD (bothD a b)) ∧ (∀ k, v.ownBlock = some k → w.heap.size ≤ k) ∧ Ext w w') := by
  have hl0 := hl
  obtain ⟨A, c, rfl, hmc, hcm⟩ := hl.lens
  unfold maxLen at hcm
  have hd0 := hd
  obtain ⟨A1, c1, rfl, hdc, hdx⟩ := hd.lens
  unfold maxLen at hdx
  
  refine calls_of_CW 27 [4] [(0, .slice A a.length c), (1, .slice A1 b.length c1)] Try.func45 rfl rfl rfl (by simp) args2 ?_
  have hE : Ext w w := Chg.refl
  refine CW.seq fun K1 hK1 => ?_
  refine CW.region ?_   -- region 0
  refine WL.val (Y.assign rfl) (by decide) ?_   -- t4 := assign c(nilslice)
  refine WL.nil ?_
  refine hK1 _ _ ?_; try clear hK1 K1
  refine CW.seq fun K2 hK2 => ?_
  refine CW.region ?_   -- region 1
  refine WL.val (Y.assign rfl) (by decide) ?_   -- t5 := assign c(nilslice)
  refine WL.nil ?_
  refine hK2 _ _ ?_; try clear hK2 K2
  refine CW.seq fun K3 hK3 => ?_
  refine CW.seq fun K4 hK4 => ?_
  refine CW.region ?_   -- region 2
  refine WL.val (Y.assign rfl) (by decide) ?_   -- t6 := assign c(0:i64)
  refine WL.nil ?_
  refine hK4 _ _ ?_; try clear hK4 K4
  refine CW.block ?_   -- block 0
  refine CW.loop (X := Nat × Value) (fun x => [(0, .slice A a.length c), (1, .slice A1 b.length c1), (5, x.2), (6, .int .i64 (x.1 : Int))]) (fun x w0 => x.1 ≤ a.length ∧ Own w0 TDg 32 x.2 (flatD (bothD (a.take x.1) b)) ∧ (∀ k, x.2.ownBlock = some k → w.heap.size ≤ k) ∧ Ext w w0) (fun x => a.length - x.1) (0, .slice none 0 0) (by repeat (first | exact Fr.le.nil | refine Fr.le.cons rfl ?_)) ⟨Nat.zero_le _, by simpa [flatD] using Own.nil, (fun k h => by simp [Value.ownBlock] at h), hE⟩ ?_
  intro x w1 hl1
  clear hE
  obtain ⟨i, v⟩ := x
  dsimp only at hl1 ⊢
  obtain ⟨hil, hO, hfu, hE⟩ := hl1
  have hol : (bothD (a.take i) b).length ≤ i := Nat.le_trans (List.length_filter_le _ _) (by rw [List.length_take]; omega)
  obtain ⟨B, mb, cb, rfl⟩ := hO.lens
  have hlo := hO.lt
  have hzE := hE.size
  refine CW.seq fun K5 hK5 => ?_
  refine CW.seq fun K6 hK6 => ?_
  refine CW.region ?_   -- region 3
  refine WL.val (Y.move rfl) (by decide) ?_   -- t7 := move t6
  refine WL.val (Y.move rfl) (by decide) ?_   -- t8 := move t0
  refine WL.val (Y.len_slice Try.underlying23 rfl) (by decide) ?_   -- t9 := call len(t8) : 23
  refine WL.val (Y.lss rfl rfl) (by decide) ?_   -- t10 := binOp lss 3 t7 t9 3
  refine WL.nil ?_
  refine hK6 _ _ ?_; try clear hK6 K6
  first | refine CW.condD rfl (fun ht7 => ?_) (fun ht7 => ?_) | refine CW.condND rfl (fun ht7 => ?_) (fun ht7 => ?_) | refine CW.condN rfl (fun ht7 => ?_) (fun ht7 => ?_) | refine CW.cond rfl (fun ht7 => ?_) (fun ht7 => ?_)
  · -- then
    refine CW.skip ?_
    refine hK5 _ _ ?_; try clear hK5 K5
    obtain ⟨d, hdi⟩ : ∃ d, a[i]? = some d := ⟨_, List.getElem?_eq_getElem (by omega)⟩
    obtain ⟨aA, rfl, hma⟩ := hl0.at hdi
    have hsel : bothD (a.take (i + 1)) b = if d ∈ b then bothD (a.take i) b ++ [d] else bothD (a.take i) b := by
      rw [bothD, take_succ hdi, List.filter_append]
      by_cases h : d ∈ b <;> simp [h]
    refine CW.seq_to (X := Value) (fun u => [(0, .slice (some aA) a.length c), (1, .slice A1 b.length c1), (5, u), (6, .int .i64 (i : Int))]) (fun u w0 => Own w0 TDg 32 u (flatD (bothD (a.take (i + 1)) b)) ∧ (∀ k, u.ownBlock = some k → w.heap.size ≤ k) ∧ Ext w w0) ?_ ?_
    · skip
      refine CW.block ?_   -- block 1
      refine CW.seq fun K9 hK9 => ?_
      refine CW.region ?_   -- region 5
      refine WL.val (Y.move rfl) (by decide) ?_   -- t13 := move t1
      refine WL.val (Y.move rfl) (by decide) ?_   -- t14 := move t0
      refine WL.val (Y.move rfl) (by decide) ?_   -- t15 := move t6
      refine WL.val (Y.indexAddrN Try.underlying23 rfl rfl sz0_apiDigest (by omega)) (by decide) ?_   -- t16 := indexAddr 23 t14 t15
      refine WL.val (Y.load Try.underlying45 rfl (hma.ext hE) (sz_apiDigest _) rfl) (by decide) ?_   -- t17 := load 45 t16
      refine WL.call Try.func27 rfl rfl rfl (rIn_any _ b d _ (hd0.ext hE)) (by simp) ?_; rintro v w2 ⟨rfl, hx2⟩; have hz2 := hx2.size; have hE := hE.thenExt hx2   -- t18 := call F27(t13, t17) : 23,45
      refine WL.nil ?_
      refine hK9 _ _ ?_; try clear hK9 K9
      first | refine CW.condD rfl (fun ht10 => ?_) (fun ht10 => ?_) | refine CW.condND rfl (fun ht10 => ?_) (fun ht10 => ?_) | refine CW.condN rfl (fun ht10 => ?_) (fun ht10 => ?_) | refine CW.cond rfl (fun ht10 => ?_) (fun ht10 => ?_)
      · -- then
        refine CW.region ?_   -- region 6
        refine WL.val (Y.move rfl) (by decide) ?_   -- t19 := move t5
        refine WL.val (Y.move rfl) (by decide) ?_   -- t20 := move t0
        refine WL.val (Y.move rfl) (by decide) ?_   -- t21 := move t6
        refine WL.val (Y.indexAddrN Try.underlying23 rfl rfl sz0_apiDigest (by omega)) (by decide) ?_   -- t22 := indexAddr 23 t20 t21
        refine WL.val (Y.load Try.underlying45 rfl (hma.ext hE) (sz_apiDigest _) rfl) (by decide) ?_   -- t23 := load 45 t22
        refine WL.st (St.buildSlice rfl (bs1_dig _)) (by decide) fun v24 w3 hR3 => ?_   -- t24 := buildSlice 23 1 [(0,t23)]
        obtain ⟨gg, rfl, hgg, hBg, hx3⟩ := hR3
        have hz3 := hx3.size
        have hE := hE.thenExt hx3
        refine WL.st (St.append Try.underlying23 Try.underlying23 ai_dig rfl rfl ((hO.ext hx2).ext hx3) (Src.one hBg (digC_length _)) one_digC (by rw [flat_length digC_length]; omega)) (by decide) fun v25 w4 hR4 => ?_   -- t25 := call append(t19, t24) : 23,23
        obtain ⟨hO4, hc4, hf4⟩ := hR4
        have hz4 := hc4.size
        have hE := hE.step hc4 (fun k h => by have := hfu k h; omega)
        have hf4 : ∀ k, v25.ownBlock = some k → w.heap.size ≤ k := by
          rcases hf4 with h | h
          · intro k hk; rw [h] at hk; exact hfu k hk
          · intro k hk; have := h k hk; omega
        refine WL.val (Y.assign rfl) (by decide) ?_   -- t5 := assign t25
        refine WL.nil ?_
        exact ⟨v25, (by repeat (first | exact Fr.le.nil | refine Fr.le.cons rfl ?_)), by rw [hsel, if_pos (by simp_all)]; simpa [flatD] using hO4, hf4, hE⟩
      -- else
      refine CW.skip ?_
      exact ⟨.slice B mb cb, (by repeat (first | exact Fr.le.nil | refine Fr.le.cons rfl ?_)), by rw [hsel, if_neg (by simp_all)]; exact hO.ext hx2, hfu, hE⟩
    rintro u w5 hj5
    clear hE hO hfu
    obtain ⟨hO, hfu, hE⟩ := hj5
    refine CW.region ?_   -- region 4
    refine WL.val (Y.move rfl) (by decide) ?_   -- t11 := move t6
    refine WL.val (Y.add rfl rfl ⟨by omega, by omega⟩) (by decide) ?_   -- t12 := binOp add 3 t11 c(1:i64) 3
    refine WL.val (Y.assign rfl) (by decide) ?_   -- t6 := assign t12
    refine WL.nil ?_
    exact ⟨(i + 1, u), by show a.length - (i + 1) < a.length - i; omega, (by repeat (first | exact Fr.le.nil | refine Fr.le.cons rfl ?_)), by show i + 1 ≤ a.length; omega, hO, hfu, hE⟩
  -- else
  refine CW.exit ?_   -- exit 0
  refine hK3 _ _ ?_; try clear hK3 K3
  refine CW.seq fun K11 hK11 => ?_
  refine CW.region ?_   -- region 7
  refine WL.val (Y.move rfl) (by decide) ?_   -- t26 := move t5
  refine WL.val (Y.assign rfl) (by decide) ?_   -- t4 := assign t26
  refine WL.nil ?_
  refine hK11 _ _ ?_; try clear hK11 K11
  refine CW.ret ⟨_, rfl, ?_⟩
  have hi2 : i = a.length := by omega
  subst hi2
  rw [List.take_length] at hO
  exact ⟨hO, hfu, hE⟩
set_option maxRecDepth 100000 in
set_option maxHeartbeats 2000000 in
theorem rHeads_any (u v0 : Value) (l : List NdV) (ids : List Dig) (w : World) (hl : Nds w u l) (hok : (readE (ndsL l)).2 = 0) (hd : Sl w digC 32 v0 ids) (hin : ∀ d ∈ ids, d ∈ idsL (ndsL l)) (hp : ids.length * 32 ≤ 140737488351232) : Calls Try.prog 16 #[u, v0] w (Ret fun v w' => Own w' TDg 32 v (flatD (headsR (ndsL l) (srtD ids))) ∧ (∀ k, v.ownBlock = some k → w.heap.size ≤ k) ∧ Ext w w') := by
  have hl0 := hl
  obtain ⟨A, c, rfl, hmc, hcm⟩ := hl.sl.lens
  unfold maxLen at hcm
  have hd0 := hd
  obtain ⟨A1, c1, rfl, hdc, hdx⟩ := hd.lens
  unfold maxLen at hdx
  have hnl : (ndsL l).length = l.length := by simp
  have hln := ok_len hok
  obtain ⟨bi, hbi, hbz, hbs, hbb⟩ := info_boolT
  refine calls_of_CW 78 [4] [(0, .slice A l.length c), (1, .slice A1 ids.length c1)] Try.func16 rfl rfl rfl (by simp) args2 ?_
  have hE : Ext w w := Chg.refl
  refine CW.seq fun K1 hK1 => ?_
  refine CW.region ?_   -- region 0
  refine WL.val (Y.assign rfl) (by decide) ?_   -- t4 := assign c(nilslice)
  refine WL.nil ?_
  refine hK1 _ _ ?_; try clear hK1 K1
  refine CW.seq fun K2 hK2 => ?_
  refine CW.region ?_   -- region 1
  refine WL.val (Y.move rfl) (by decide) ?_   -- t12 := move t1
  refine WL.call Try.func37 rfl rfl rfl (sorted_any _ ids _ hd0 hp) (by simp) ?_; rintro v13 w1 hR1   -- t13 := call F37(t12) : 23
  obtain ⟨hO1, hf1, hx1⟩ := hR1
  have hz1 := hx1.size
  have hE := hE.thenExt hx1
  obtain ⟨all, hall⟩ : ∃ a, a = srtD ids := ⟨_, rfl⟩
  rw [← hall] at hO1 ⊢
  have hup : Up all := by rw [hall]; exact srt_up _ _ List.Pairwise.nil
  have hai : ∀ d ∈ all, d ∈ idsL (ndsL l) := fun d h => by
    rw [hall, srtD, srt_mem] at h
    rcases h with h | h
    · exact hin d h
    · cases h
  have hal : all.length ≤ l.length := by
    have := nodup_le (hup.imp fun {a b} hab e => by subst e; rw [less_irrefl] at hab; cases hab) hai
    simpa using this
  obtain ⟨B, mb, cb, rfl⟩ := hO1.lens
  obtain ⟨hlb, hmb, hcb⟩ := hO1.len digC_length (by decide)
  unfold maxLen at hcb
  have hS := hO1.sl digC_length (by decide)
  have hlt1 := hO1.lt
  subst hlb
  refine WL.val (Y.assign rfl) (by decide) ?_   -- t5 := assign t13
  refine WL.nil ?_
  refine hK2 _ _ ?_; try clear hK2 K2
  refine CW.seq fun K3 hK3 => ?_
  refine CW.region ?_   -- region 2
  refine WL.val (Y.move rfl) (by decide) ?_   -- t14 := move t5
  refine WL.val (Y.len_slice Try.underlying23 rfl) (by decide) ?_   -- t15 := call len(t14) : 23
  refine WL.st (St.makeB Try.underlying58 hbi hbz hbs hbb rfl rfl (by omega)) (by decide) fun v16 w2 hR2 => ?_   -- t16 := makeSlice 58 t15 t15
  obtain ⟨ub, rfl, hub, hU, hx2⟩ := hR2
  have hz2 := hx2.size
  have hE := hE.thenExt hx2
  have hS := hS.ext hx2
  have hnb : ∀ k, (Value.slice B all.length cb).ownBlock = some k → k ≠ ub := fun k hk => by have := hlt1 k hk; omega
  refine WL.val (Y.assign rfl) (by decide) ?_   -- t6 := assign t16
  refine WL.nil ?_
  refine hK3 _ _ ?_; try clear hK3 K3
  refine CW.seq fun K4 hK4 => ?_
  refine CW.seq fun K5 hK5 => ?_
  refine CW.region ?_   -- region 3
  refine WL.val (Y.assign rfl) (by decide) ?_   -- t7 := assign c(0:i64)
  refine WL.nil ?_
  refine hK5 _ _ ?_; try clear hK5 K5
  refine CW.block ?_   -- block 0
  refine CW.loop (X := Nat) (fun x => [(0, .slice A l.length c), (5, .slice B all.length cb), (6, .slice (some ⟨ub, 0, none⟩) all.length all.length), (7, .int .i64 (x : Int))]) (fun x w0 => x ≤ all.length ∧ Blk w0 ub TBo (boolC (heU (ndsL l) all x)) ∧ Sl w0 digC 32 (.slice B all.length cb) all ∧ Ext w w0 ∧ w2.heap.size ≤ w0.heap.size) (fun x => all.length - x) 0 (by repeat (first | exact Fr.le.nil | refine Fr.le.cons rfl ?_)) ⟨Nat.zero_le _, by simpa [heU] using hU, hS, hE, Nat.le_refl _⟩ ?_
  intro x w3 hl3
  clear hE hU hS
  obtain ⟨k, rfl⟩ : ∃ k, k = x := ⟨x, rfl⟩
  obtain ⟨hkl, hU, hS, hE, hz3⟩ := hl3
  have hltu := hU.lt
  refine CW.seq fun K6 hK6 => ?_
  refine CW.seq fun K7 hK7 => ?_
  refine CW.region ?_   -- region 4
  refine WL.val (Y.move rfl) (by decide) ?_   -- t17 := move t7
  refine WL.val (Y.move rfl) (by decide) ?_   -- t18 := move t5
  refine WL.val (Y.len_slice Try.underlying23 rfl) (by decide) ?_   -- t19 := call len(t18) : 23
  refine WL.val (Y.lss rfl rfl) (by decide) ?_   -- t20 := binOp lss 3 t17 t19 3
  refine WL.nil ?_
  refine hK7 _ _ ?_; try clear hK7 K7
  first | refine CW.condD rfl (fun ht8 => ?_) (fun ht8 => ?_) | refine CW.condND rfl (fun ht8 => ?_) (fun ht8 => ?_) | refine CW.condN rfl (fun ht8 => ?_) (fun ht8 => ?_) | refine CW.cond rfl (fun ht8 => ?_) (fun ht8 => ?_)
  · -- then
    refine CW.skip ?_
    refine hK6 _ _ ?_; try clear hK6 K6
    refine CW.seq fun K9 hK9 => ?_
    refine CW.block ?_   -- block 1
    refine CW.seq fun K10 hK10 => ?_
    obtain ⟨ak, hak⟩ : ∃ d, all[k]? = some d := ⟨_, List.getElem?_eq_getElem (by omega)⟩
    obtain ⟨aB, rfl, hma⟩ := hS.at hak
    refine CW.region ?_   -- region 6
    refine WL.val (Y.move rfl) (by decide) ?_   -- t23 := move t0
    refine WL.val (Y.move rfl) (by decide) ?_   -- t24 := move t5
    refine WL.val (Y.move rfl) (by decide) ?_   -- t25 := move t7
    refine WL.val (Y.move rfl) (by decide) ?_   -- t26 := move t7
    refine WL.val (Y.add rfl rfl ⟨by omega, by omega⟩) (by decide) ?_   -- t27 := binOp add 3 t26 c(1:i64) 3
    refine WL.val (Y.slice_slI Try.underlying23 rfl rfl rfl sz0_apiDigest rfl (show _ = ((k + 1 : Nat) : Int) by omega) (by omega) (by omega)) (by decide) ?_   -- t28 := slice 23 t24 t25 t27 none
    refine WL.call Try.func38 rfl rfl rfl (rmarks_any _ _ l ((all.drop k).take 1) _ (hl0.ext hE) hok (by rw [show (all.drop k).take 1 = (all.drop k).take (k + 1 - k) by rw [Nat.add_sub_cancel_left]]; exact hS.cut (by omega) (by omega)) (fun d h => hai d (List.mem_of_mem_drop (List.mem_of_mem_take h)))) (by simp) ?_; rintro v29 w4 hR4   -- t29 := call F38(t23, t28) : 22,23
    obtain ⟨bm, rfl, hbm, hM, hx4⟩ := hR4
    have hz4 := hx4.size
    have hE := hE.thenExt hx4
    have hU := hU.ext hx4
    have hS := hS.ext hx4
    have hltm := hM.lt
    obtain ⟨M, hM0⟩ : ∃ M, M = markF (ndsL l) ((all.drop k).take 1) := ⟨_, rfl⟩
    have hMl : M.length = l.length := by rw [hM0, markF_length, hnl]
    rw [← hM0] at hM
    refine WL.val (Y.assign rfl) (by decide) ?_   -- t8 := assign t29
    refine WL.nil ?_
    refine hK10 _ _ ?_; try clear hK10 K10
    refine CW.seq fun K11 hK11 => ?_
    refine CW.region ?_   -- region 7
    refine WL.val (Y.assign rfl) (by decide) ?_   -- t9 := assign c(0:i64)
    refine WL.nil ?_
    refine hK11 _ _ ?_; try clear hK11 K11
    refine CW.block ?_   -- block 2
    refine CW.loop (X := Nat) (fun x => [(0, .slice A l.length c), (5, .slice (some aB) all.length cb), (6, .slice (some ⟨ub, 0, none⟩) all.length all.length), (7, .int .i64 (k : Int)), (8, .slice (some ⟨bm, 0, none⟩) l.length l.length), (9, .int .i64 (x : Int))]) (fun x w0 => x ≤ all.length ∧ Blk w0 ub TBo (boolC (heS (ndsL l) all k (heU (ndsL l) all k) x)) ∧ Blk w0 bm TBo (boolC M) ∧ Sl w0 digC 32 (.slice (some aB) all.length cb) all ∧ Ext w w0 ∧ w4.heap.size ≤ w0.heap.size) (fun x => all.length - x) 0 (by repeat (first | exact Fr.le.nil | refine Fr.le.cons rfl ?_)) ⟨Nat.zero_le _, hU, hM, hS, hE, Nat.le_refl _⟩ ?_
    intro x w5 hl5
    clear hE hU hM hS
    obtain ⟨hjl, hU, hM, hS, hE, hz5⟩ := hl5
    refine CW.seq fun K12 hK12 => ?_
    refine CW.seq fun K13 hK13 => ?_
    refine CW.region ?_   -- region 8
    refine WL.val (Y.move rfl) (by decide) ?_   -- t30 := move t9
    refine WL.val (Y.move rfl) (by decide) ?_   -- t31 := move t5
    refine WL.val (Y.len_slice Try.underlying23 rfl) (by decide) ?_   -- t32 := call len(t31) : 23
    refine WL.val (Y.lss rfl rfl) (by decide) ?_   -- t33 := binOp lss 3 t30 t32 3
    refine WL.nil ?_
    refine hK13 _ _ ?_; try clear hK13 K13
    first | refine CW.condD rfl (fun ht14 => ?_) (fun ht14 => ?_) | refine CW.condND rfl (fun ht14 => ?_) (fun ht14 => ?_) | refine CW.condN rfl (fun ht14 => ?_) (fun ht14 => ?_) | refine CW.cond rfl (fun ht14 => ?_) (fun ht14 => ?_)
    · -- then
      refine CW.skip ?_
      refine hK12 _ _ ?_; try clear hK12 K12
      refine CW.seq fun K15 hK15 => ?_
      refine CW.block ?_   -- block 3
      obtain ⟨d, hdx⟩ : ∃ d, all[x]? = some d := ⟨_, List.getElem?_eq_getElem (by omega)⟩
      obtain ⟨a2, ha2, hmd⟩ := hS.at hdx
      cases ha2
      have hdi := hai d (List.mem_of_getElem? hdx)
      have hix := ixN_lt hdi
      obtain ⟨cm, hcm2⟩ : ∃ c, M[ixN (ndsL l) d]? = some c := ⟨_, List.getElem?_eq_getElem (by omega)⟩
      have hUl : (heS (ndsL l) all k (heU (ndsL l) all k) x).length = all.length := by rw [heS_length, heU_length]
      obtain ⟨cu, hcu⟩ : ∃ c, (heS (ndsL l) all k (heU (ndsL l) all k) x)[x]? = some c := ⟨_, List.getElem?_eq_getElem (by omega)⟩
      have hs : heS (ndsL l) all k (heU (ndsL l) all k) (x + 1) = (heS (ndsL l) all k (heU (ndsL l) all k) x).set x (cu || (!decide (x = k) && cm)) := by
        rw [heS, hcu, heB, hdx, ← hM0, Option.getD_some, bitAt, Option.getD_some, hcm2]; rfl
      refine CW.region ?_   -- region 10
      refine WL.val (Y.move rfl) (by decide) ?_   -- t36 := move t6
      refine WL.val (Y.move rfl) (by decide) ?_   -- t37 := move t9
      refine WL.val (Y.move rfl) (by decide) ?_   -- t38 := move t6
      refine WL.val (Y.move rfl) (by decide) ?_   -- t39 := move t9
      refine WL.val (Y.indexAddrN Try.underlying58 rfl rfl sz0_bool (by omega)) (by decide) ?_   -- t40 := indexAddr 58 t38 t39
      refine WL.val (Y.load1 Try.underlying4 rfl (hU.bcell hcu) rfl) (by decide) ?_   -- t41 := load 4 t40
      refine WL.val (Y.move rfl) (by decide) ?_   -- t42 := move t41
      first | refine WL.casesD (d := 42) rfl (fun hg42 => ?_) (fun hg42 => ?_) | refine WL.casesND (d := 42) rfl (fun hg42 => ?_) (fun hg42 => ?_) | refine WL.cases (d := 42) rfl (fun hg42 => ?_) (fun hg42 => ?_)
      · -- t42 = T
        refine WL.goff rfl rfl (by decide) ?_   -- t43 := move t9 [if 6=false]
        refine WL.goff rfl rfl (by decide) ?_   -- t44 := move t7 [if 6=false]
        refine WL.goff rfl rfl (by decide) ?_   -- t45 := binOp neq 3 t43 t44 3 [if 6=false]
        refine WL.goff rfl rfl (by decide) ?_   -- t46 := move t45 [if 6=false]
        refine WL.goffU rfl rfl (by decide) ?_   -- t47 := move t8 [if 10=true]
        refine WL.goffU rfl rfl (by decide) ?_   -- t48 := move t0 [if 10=true]
        refine WL.goffU rfl rfl (by decide) ?_   -- t49 := move t5 [if 10=true]
        refine WL.goffU rfl rfl (by decide) ?_   -- t50 := move t9 [if 10=true]
        refine WL.goffU rfl rfl (by decide) ?_   -- t51 := indexAddr 23 t49 t50 [if 10=true]
        refine WL.goffU rfl rfl (by decide) ?_   -- t52 := load 45 t51 [if 10=true]
        refine WL.goffU rfl rfl (by decide) ?_   -- t53 := call F26(t48, t52) : 22,45 [if 10=true]
        refine WL.goffU rfl rfl (by decide) ?_   -- t54 := indexAddr 58 t47 t53 [if 10=true]
        refine WL.goffU rfl rfl (by decide) ?_   -- t55 := load 4 t54 [if 10=true]
        refine WL.goff rfl rfl (by decide) ?_   -- t56 := pick t46 t55 c(false) [if 6=false]
        refine WL.val (Y.pick rfl rfl) (by decide) ?_   -- t57 := pick t42 c(true) t56
        refine WL.val (Y.indexAddrN Try.underlying58 rfl rfl sz0_bool (by omega)) (by decide) ?_   -- t58 := indexAddr 58 t36 t37
        refine WL.storeB rfl rfl rfl sz_bool hU hcu (fun w6 hc6 hB6_ => ?_)   -- _ := store 4 t58 t57
        have hz6 := hc6.size; have hE := hE.step hc6 (fun k h => by omega)
        skip
        refine WL.nil ?_
        refine hK15 _ _ ?_; try clear hK15 K15
        refine CW.region ?_   -- region 9
        refine WL.val (Y.move rfl) (by decide) ?_   -- t34 := move t9
        refine WL.val (Y.add rfl rfl ⟨by omega, by omega⟩) (by decide) ?_   -- t35 := binOp add 3 t34 c(1:i64) 3
        refine WL.val (Y.assign rfl) (by decide) ?_   -- t9 := assign t35
        refine WL.nil ?_
        refine ⟨x + 1, by show all.length - (x + 1) < all.length - x; omega, (by repeat (first | exact Fr.le.nil | refine Fr.le.cons rfl ?_)), by show x + 1 ≤ all.length; omega, ?_, hM.chg hc6 (fun h => by omega), hS.chg hc6 (fun k hk h => hnb k hk h), hE, by omega⟩
        show Blk _ _ _ (boolC (heS _ _ _ _ (x + 1)))
        have e : (cu || (!decide (x = k) && cm)) = true := by simp [hg42]
        rw [hs, e]
        exact hB6_
      · -- t42 = F
        refine WL.gval rfl rfl (Y.move rfl) (by decide) ?_   -- t43 := move t9 [if 6=false]
        refine WL.gval rfl rfl (Y.move rfl) (by decide) ?_   -- t44 := move t7 [if 6=false]
        refine WL.gval rfl rfl (Y.neq rfl rfl) (by decide) ?_   -- t45 := binOp neq 3 t43 t44 3 [if 6=false]
        refine WL.gval rfl rfl (Y.move rfl) (by decide) ?_   -- t46 := move t45 [if 6=false]
        first | refine WL.casesD (d := 46) rfl (fun hg46 => ?_) (fun hg46 => ?_) | refine WL.casesND (d := 46) rfl (fun hg46 => ?_) (fun hg46 => ?_) | refine WL.cases (d := 46) rfl (fun hg46 => ?_) (fun hg46 => ?_)
        · -- t46 = T
          refine WL.gval rfl rfl (Y.move rfl) (by decide) ?_   -- t47 := move t8 [if 10=true]
          refine WL.gval rfl rfl (Y.move rfl) (by decide) ?_   -- t48 := move t0 [if 10=true]
          refine WL.gval rfl rfl (Y.move rfl) (by decide) ?_   -- t49 := move t5 [if 10=true]
          refine WL.gval rfl rfl (Y.move rfl) (by decide) ?_   -- t50 := move t9 [if 10=true]
          refine WL.gval rfl rfl (Y.indexAddrN Try.underlying23 rfl rfl sz0_apiDigest (by omega)) (by decide) ?_   -- t51 := indexAddr 23 t49 t50 [if 10=true]
          refine WL.gval rfl rfl (Y.load Try.underlying45 rfl hmd (sz_apiDigest _) rfl) (by decide) ?_   -- t52 := load 45 t51 [if 10=true]
          refine WL.gcall rfl rfl Try.func26 rfl rfl rfl (rFindIn_any _ l d _ (hl0.ext hE) hdi) (by decide) ?_; rintro v w7 ⟨rfl, hx7⟩; have hz7 := hx7.size; have hE := hE.thenExt hx7   -- t53 := call F26(t48, t52) : 22,45 [if 10=true]
          refine WL.gval rfl rfl (Y.indexAddrN Try.underlying58 rfl rfl sz0_bool (by omega)) (by decide) ?_   -- t54 := indexAddr 58 t47 t53 [if 10=true]
          refine WL.gval rfl rfl (Y.load1 Try.underlying4 rfl ((hM.ext hx7).bcell hcm2) rfl) (by decide) ?_   -- t55 := load 4 t54 [if 10=true]
          refine WL.gval rfl rfl (Y.pick rfl rfl) (by decide) ?_   -- t56 := pick t46 t55 c(false) [if 6=false]
          refine WL.val (Y.pick rfl rfl) (by decide) ?_   -- t57 := pick t42 c(true) t56
          refine WL.val (Y.indexAddrN Try.underlying58 rfl rfl sz0_bool (by omega)) (by decide) ?_   -- t58 := indexAddr 58 t36 t37
          refine WL.storeB rfl rfl rfl sz_bool (hU.ext hx7) hcu (fun w8 hc8 hB8_ => ?_)   -- _ := store 4 t58 t57
          have hz8 := hc8.size; have hE := hE.step hc8 (fun k h => by omega)
          have hM := hM.ext hx7
          have hS := hS.ext hx7
          refine WL.nil ?_
          refine hK15 _ _ ?_; try clear hK15 K15
          refine CW.region ?_   -- region 9
          refine WL.val (Y.move rfl) (by decide) ?_   -- t34 := move t9
          refine WL.val (Y.add rfl rfl ⟨by omega, by omega⟩) (by decide) ?_   -- t35 := binOp add 3 t34 c(1:i64) 3
          refine WL.val (Y.assign rfl) (by decide) ?_   -- t9 := assign t35
          refine WL.nil ?_
          refine ⟨x + 1, by show all.length - (x + 1) < all.length - x; omega, (by repeat (first | exact Fr.le.nil | refine Fr.le.cons rfl ?_)), by show x + 1 ≤ all.length; omega, ?_, hM.chg hc8 (fun h => by omega), hS.chg hc8 (fun k hk h => hnb k hk h), hE, by omega⟩
          show Blk _ _ _ (boolC (heS _ _ _ _ (x + 1)))
          have e : (cu || (!decide (x = k) && cm)) = cm := by simp [hg42, show ¬ x = k by omega]
          rw [hs, e]
          exact hB8_
        · -- t46 = F
          refine WL.goff rfl rfl (by decide) ?_   -- t47 := move t8 [if 10=true]
          refine WL.goff rfl rfl (by decide) ?_   -- t48 := move t0 [if 10=true]
          refine WL.goff rfl rfl (by decide) ?_   -- t49 := move t5 [if 10=true]
          refine WL.goff rfl rfl (by decide) ?_   -- t50 := move t9 [if 10=true]
          refine WL.goff rfl rfl (by decide) ?_   -- t51 := indexAddr 23 t49 t50 [if 10=true]
          refine WL.goff rfl rfl (by decide) ?_   -- t52 := load 45 t51 [if 10=true]
          refine WL.goff rfl rfl (by decide) ?_   -- t53 := call F26(t48, t52) : 22,45 [if 10=true]
          refine WL.goff rfl rfl (by decide) ?_   -- t54 := indexAddr 58 t47 t53 [if 10=true]
          refine WL.goff rfl rfl (by decide) ?_   -- t55 := load 4 t54 [if 10=true]
          refine WL.gval rfl rfl (Y.pick rfl rfl) (by decide) ?_   -- t56 := pick t46 t55 c(false) [if 6=false]
          refine WL.val (Y.pick rfl rfl) (by decide) ?_   -- t57 := pick t42 c(true) t56
          refine WL.val (Y.indexAddrN Try.underlying58 rfl rfl sz0_bool (by omega)) (by decide) ?_   -- t58 := indexAddr 58 t36 t37
          refine WL.storeB rfl rfl rfl sz_bool hU hcu (fun w9 hc9 hB9_ => ?_)   -- _ := store 4 t58 t57
          have hz9 := hc9.size; have hE := hE.step hc9 (fun k h => by omega)
          skip
          refine WL.nil ?_
          refine hK15 _ _ ?_; try clear hK15 K15
          refine CW.region ?_   -- region 9
          refine WL.val (Y.move rfl) (by decide) ?_   -- t34 := move t9
          refine WL.val (Y.add rfl rfl ⟨by omega, by omega⟩) (by decide) ?_   -- t35 := binOp add 3 t34 c(1:i64) 3
          refine WL.val (Y.assign rfl) (by decide) ?_   -- t9 := assign t35
          refine WL.nil ?_
          refine ⟨x + 1, by show all.length - (x + 1) < all.length - x; omega, (by repeat (first | exact Fr.le.nil | refine Fr.le.cons rfl ?_)), by show x + 1 ≤ all.length; omega, ?_, hM.chg hc9 (fun h => by omega), hS.chg hc9 (fun k hk h => hnb k hk h), hE, by omega⟩
          show Blk _ _ _ (boolC (heS _ _ _ _ (x + 1)))
          have e : (cu || (!decide (x = k) && cm)) = false := by simp [hg42, show x = k by omega]
          rw [hs, e]
          exact hB9_
    -- else
    refine CW.exit ?_   -- exit 2
    refine hK9 _ _ ?_; try clear hK9 K9
    refine CW.region ?_   -- region 5
    refine WL.val (Y.move rfl) (by decide) ?_   -- t21 := move t7
    refine WL.val (Y.add rfl rfl ⟨by omega, by omega⟩) (by decide) ?_   -- t22 := binOp add 3 t21 c(1:i64) 3
    refine WL.val (Y.assign rfl) (by decide) ?_   -- t7 := assign t22
    refine WL.nil ?_
    have hx : x = all.length := by omega
    subst hx
    exact ⟨k + 1, by show all.length - (k + 1) < all.length - k; omega, (by repeat (first | exact Fr.le.nil | refine Fr.le.cons rfl ?_)), by show k + 1 ≤ all.length; omega, hU, hS, hE, by omega⟩
  -- else
  refine CW.exit ?_   -- exit 0
  refine hK4 _ _ ?_; try clear hK4 K4
  refine CW.seq fun K16 hK16 => ?_
  have hk9 : k = all.length := by omega
  subst hk9
  obtain ⟨U, hU0⟩ : ∃ U, U = heU (ndsL l) all all.length := ⟨_, rfl⟩
  have hUl : U.length = all.length := by rw [hU0, heU_length]
  rw [← hU0] at hU
  have hE3 := hE
  refine CW.region ?_   -- region 11
  refine WL.val (Y.assign rfl) (by decide) ?_   -- t10 := assign c(nilslice)
  refine WL.nil ?_
  refine hK16 _ _ ?_; try clear hK16 K16
  refine CW.seq fun K17 hK17 => ?_
  refine CW.seq fun K18 hK18 => ?_
  refine CW.region ?_   -- region 12
  refine WL.val (Y.assign rfl) (by decide) ?_   -- t11 := assign c(0:i64)
  refine WL.nil ?_
  refine hK18 _ _ ?_; try clear hK18 K18
  refine CW.block ?_   -- block 4
  refine CW.loop (X := Nat × Value) (fun x => [(5, .slice B all.length cb), (6, .slice (some ⟨ub, 0, none⟩) all.length all.length), (10, x.2), (11, .int .i64 (x.1 : Int))]) (fun x w0 => x.1 ≤ all.length ∧ Own w0 TDg 32 x.2 (flatD (selD (fun i => !pB U i) all x.1)) ∧ (∀ k, x.2.ownBlock = some k → w3.heap.size ≤ k) ∧ Blk w0 ub TBo (boolC U) ∧ Sl w0 digC 32 (.slice B all.length cb) all ∧ Ext w w0 ∧ w3.heap.size ≤ w0.heap.size) (fun x => all.length - x.1) (0, .slice none 0 0) (by repeat (first | exact Fr.le.nil | refine Fr.le.cons rfl ?_)) ⟨Nat.zero_le _, Own.nil, (fun k h => by simp [Value.ownBlock] at h), hU, hS, hE, Nat.le_refl _⟩ ?_
  intro x w10 hl10
  clear hE hU hS
  obtain ⟨i, v⟩ := x
  dsimp only at hl10 ⊢
  obtain ⟨hil, hO, hfu, hU, hS, hE, hz10⟩ := hl10
  have hol := selD_len (p := fun i => !pB U i) (all := all) (k := i)
  obtain ⟨B2, mb2, cb2, rfl⟩ := hO.lens
  have hlo := hO.lt
  have hzE := hE.size
  refine CW.seq fun K19 hK19 => ?_
  refine CW.seq fun K20 hK20 => ?_
  refine CW.region ?_   -- region 13
  refine WL.val (Y.move rfl) (by decide) ?_   -- t59 := move t11
  refine WL.val (Y.move rfl) (by decide) ?_   -- t60 := move t5
  refine WL.val (Y.len_slice Try.underlying23 rfl) (by decide) ?_   -- t61 := call len(t60) : 23
  refine WL.val (Y.lss rfl rfl) (by decide) ?_   -- t62 := binOp lss 3 t59 t61 3
  refine WL.nil ?_
  refine hK20 _ _ ?_; try clear hK20 K20
  first | refine CW.condD rfl (fun ht21 => ?_) (fun ht21 => ?_) | refine CW.condND rfl (fun ht21 => ?_) (fun ht21 => ?_) | refine CW.condN rfl (fun ht21 => ?_) (fun ht21 => ?_) | refine CW.cond rfl (fun ht21 => ?_) (fun ht21 => ?_)
  · -- then
    refine CW.skip ?_
    refine hK19 _ _ ?_; try clear hK19 K19
    obtain ⟨d, hdx⟩ : ∃ d, all[i]? = some d := ⟨_, List.getElem?_eq_getElem (by omega)⟩
    obtain ⟨aB, rfl, hmd⟩ := hS.at hdx
    obtain ⟨cu, hcu⟩ : ∃ c, U[i]? = some c := ⟨_, List.getElem?_eq_getElem (by omega)⟩
    have hsel := selD_at (p := fun i => !pB U i) hdx
    refine CW.seq_to (X := Value) (fun u => [(5, .slice (some aB) all.length cb), (6, .slice (some ⟨ub, 0, none⟩) all.length all.length), (10, u), (11, .int .i64 (i : Int))]) (fun u w0 => Own w0 TDg 32 u (flatD (selD (fun i => !pB U i) all (i + 1))) ∧ (∀ k, u.ownBlock = some k → w3.heap.size ≤ k) ∧ Blk w0 ub TBo (boolC U) ∧ Sl w0 digC 32 (.slice (some aB) all.length cb) all ∧ Ext w w0 ∧ w3.heap.size ≤ w0.heap.size) ?_ ?_
    · skip
      refine CW.block ?_   -- block 5
      refine CW.seq fun K23 hK23 => ?_
      refine CW.region ?_   -- region 15
      refine WL.val (Y.move rfl) (by decide) ?_   -- t65 := move t6
      refine WL.val (Y.move rfl) (by decide) ?_   -- t66 := move t11
      refine WL.val (Y.indexAddrN Try.underlying58 rfl rfl sz0_bool (by omega)) (by decide) ?_   -- t67 := indexAddr 58 t65 t66
      refine WL.val (Y.load1 Try.underlying4 rfl (hU.bcell hcu) rfl) (by decide) ?_   -- t68 := load 4 t67
      refine WL.val (Y.not rfl) (by decide) ?_   -- t69 := unOp not 4 t68
      refine WL.nil ?_
      refine hK23 _ _ ?_; try clear hK23 K23
      first | refine CW.condD rfl (fun ht24 => ?_) (fun ht24 => ?_) | refine CW.condND rfl (fun ht24 => ?_) (fun ht24 => ?_) | refine CW.condN rfl (fun ht24 => ?_) (fun ht24 => ?_) | refine CW.cond rfl (fun ht24 => ?_) (fun ht24 => ?_)
      · -- then
        refine CW.region ?_   -- region 16
        refine WL.val (Y.move rfl) (by decide) ?_   -- t70 := move t10
        refine WL.val (Y.move rfl) (by decide) ?_   -- t71 := move t5
        refine WL.val (Y.move rfl) (by decide) ?_   -- t72 := move t11
        refine WL.val (Y.indexAddrN Try.underlying23 rfl rfl sz0_apiDigest (by omega)) (by decide) ?_   -- t73 := indexAddr 23 t71 t72
        refine WL.val (Y.load Try.underlying45 rfl hmd (sz_apiDigest _) rfl) (by decide) ?_   -- t74 := load 45 t73
        refine WL.st (St.buildSlice rfl (bs1_dig _)) (by decide) fun v75 w11 hR11 => ?_   -- t75 := buildSlice 23 1 [(0,t74)]
        obtain ⟨gg, rfl, hgg, hBg, hx11⟩ := hR11
        have hz11 := hx11.size
        have hE := hE.thenExt hx11
        have hU := hU.ext hx11
        have hS := hS.ext hx11
        refine WL.st (St.append Try.underlying23 Try.underlying23 ai_dig rfl rfl (hO.ext hx11) (Src.one hBg (digC_length _)) one_digC (by rw [flat_length digC_length]; omega)) (by decide) fun v76 w12 hR12 => ?_   -- t76 := call append(t70, t75) : 23,23
        obtain ⟨hO12, hc12, hf12⟩ := hR12
        have hz12 := hc12.size
        have hE := hE.step hc12 (fun k h => by have := hfu k h; omega)
        have hf12 : ∀ k, v76.ownBlock = some k → w3.heap.size ≤ k := by
          rcases hf12 with h | h
          · intro k hk; rw [h] at hk; exact hfu k hk
          · intro k hk; have := h k hk; omega
        have hU := hU.chg hc12 (fun h => by have := hfu _ h; omega)
        have hS := hS.chg hc12 (fun k hk h => by have := hfu k h; have := hlt1 k hk; omega)
        refine WL.val (Y.assign rfl) (by decide) ?_   -- t10 := assign t76
        refine WL.nil ?_
        exact ⟨v76, (by repeat (first | exact Fr.le.nil | refine Fr.le.cons rfl ?_)), by rw [hsel, if_pos (by simp [pB, hcu]; simp_all)]; simpa [flatD] using hO12, hf12, hU, hS, hE, by omega⟩
      -- else
      refine CW.skip ?_
      exact ⟨.slice B2 mb2 cb2, (by repeat (first | exact Fr.le.nil | refine Fr.le.cons rfl ?_)), by rw [hsel, if_neg (by simp [pB, hcu]; simp_all)]; exact hO, hfu, hU, hS, hE, by omega⟩
    rintro u w13 hj13
    clear hE hO hfu hU hS
    obtain ⟨hO, hfu, hU, hS, hE, hz14⟩ := hj13
    refine CW.region ?_   -- region 14
    refine WL.val (Y.move rfl) (by decide) ?_   -- t63 := move t11
    refine WL.val (Y.add rfl rfl ⟨by omega, by omega⟩) (by decide) ?_   -- t64 := binOp add 3 t63 c(1:i64) 3
    refine WL.val (Y.assign rfl) (by decide) ?_   -- t11 := assign t64
    refine WL.nil ?_
    exact ⟨(i + 1, u), by show all.length - (i + 1) < all.length - i; omega, (by repeat (first | exact Fr.le.nil | refine Fr.le.cons rfl ?_)), by show i + 1 ≤ all.length; omega, hO, hfu, hU, hS, hE, by omega⟩
  -- else
  refine CW.exit ?_   -- exit 4
  refine hK17 _ _ ?_; try clear hK17 K17
  refine CW.seq fun K25 hK25 => ?_
  refine CW.region ?_   -- region 17
  refine WL.val (Y.move rfl) (by decide) ?_   -- t77 := move t10
  refine WL.val (Y.assign rfl) (by decide) ?_   -- t4 := assign t77
  refine WL.nil ?_
  refine hK25 _ _ ?_; try clear hK25 K25
  refine CW.ret ⟨_, rfl, ?_⟩
  have hi2 : i = all.length := by omega
  subst hi2
  exact ⟨by rw [headsR, ← hall, ← hU0]; exact hO, fun k hk => by have := hfu k hk; have := hE3.size; omega, hE⟩
end Go.Proofs.Ytecolkngbcgmcaa

/- The reference's Common, Within, Order, Lacks; the law's two, walked. No condition. -/
namespace Go.Pl
open Go.Fw
theorem find_at {p : Dig → Bool} {all : List Dig} {i : Nat} {d : Dig} (h : all[i]? = some d) (hp : p d = true) (hno : ∀ y ∈ all.take i, p y = false) : all.find? p = some d := by
  obtain ⟨hlt, hd⟩ := List.getElem?_eq_some_iff.1 h
  rw [List.find?_eq_some_iff_append]
  refine ⟨hp, all.take i, all.drop (i + 1), ?_, fun a ha => by simp [hno a ha]⟩
  rw [← hd, ← List.drop_eq_getElem_cons hlt, List.take_append_drop]
theorem both_all {a b : List Dig} : (bothD a b).length = a.length ↔ ∀ d ∈ a, d ∈ b := by
  rw [bothD, List.length_filter_eq_length_iff]
  simp
end Go.Pl
namespace Go.Proofs.Ytecolkngbcgmcaa
open Go.RowKit Go.Fw Go.Pl Go.Sort
theorem one_flatD (l : List Dig) : ∀ u ∈ flatD l, u.oneCell' = true := by
  intro u hu
  obtain ⟨c, hc, hu⟩ := List.mem_flatten.1 hu
  obtain ⟨d, _, rfl⟩ := List.mem_map.1 hc
  exact one_digC u hu

theorem rCommon_any (u va vb : Value) (l : List NdV) (a b : List Dig) (w : World) (hl : Nds w u l) (hok : (readE (ndsL l)).2 = 0) (ha : Sl w digC 32 va a) (hb : Sl w digC 32 vb b) (hina : ∀ d ∈ a, d ∈ idsL (ndsL l)) (hinb : ∀ d ∈ b, d ∈ idsL (ndsL l)) : Calls Try.prog 30 #[u, va, vb] w (Ret fun v w' => Own w' TDg 32 v (flatD (headsR (ndsL l) (srtD (bothD (aboveL (ndsL l) a) (aboveL (ndsL l) b))))) ∧ (∀ k, v.ownBlock = some k → w.heap.size ≤ k) ∧ Ext w w') := by
  have hl0 := hl
  obtain ⟨A, c, rfl, hmc, hcm⟩ := hl.sl.lens
  unfold maxLen at hcm
  have ha0 := ha
  obtain ⟨A1, c1, rfl, hac, hax⟩ := ha.lens
  unfold maxLen at hax
  have hb0 := hb
  obtain ⟨A2, c2, rfl, hbc, hbx⟩ := hb.lens
  unfold maxLen at hbx
  have hnl : (ndsL l).length = l.length := by simp
  have hln := ok_len hok
  refine calls_of_CW 16 [6] [(0, .slice A l.length c), (1, .slice A1 a.length c1), (2, .slice A2 b.length c2)] Try.func30 rfl rfl rfl (by simp) args3 ?_
  have hE : Ext w w := Chg.refl
  refine CW.seq fun K1 hK1 => ?_
  refine CW.region ?_   -- region 0
  refine WL.val (Y.assign rfl) (by decide) ?_   -- t6 := assign c(nilslice)
  refine WL.nil ?_
  refine hK1 _ _ ?_; try clear hK1 K1
  refine CW.seq fun K2 hK2 => ?_
  refine CW.region ?_   -- region 1
  refine WL.val (Y.move rfl) (by decide) ?_   -- t7 := move t0
  refine WL.val (Y.move rfl) (by decide) ?_   -- t8 := move t0
  refine WL.val (Y.move rfl) (by decide) ?_   -- t9 := move t1
  refine WL.call Try.func34 rfl rfl rfl (rAbove_any _ _ l a _ hl0 hok ha0 hina) (by simp) ?_; rintro v10 w1 hR1   -- t10 := call F34(t8, t9) : 22,23
  obtain ⟨hO1, hf1, hx1⟩ := hR1
  have hz1 := hx1.size
  have hE := hE.thenExt hx1
  have hal := above_length (l := ndsL l) (ids := a)
  refine WL.val (Y.move rfl) (by decide) ?_   -- t11 := move t0
  refine WL.val (Y.move rfl) (by decide) ?_   -- t12 := move t2
  refine WL.call Try.func34 rfl rfl rfl (rAbove_any _ _ l b _ (hl0.ext hE) hok (hb0.ext hE) hinb) (by simp) ?_; rintro v13 w2 hR2   -- t13 := call F34(t11, t12) : 22,23
  obtain ⟨hO2, hf2, hx2⟩ := hR2
  have hz2 := hx2.size
  have hE := hE.thenExt hx2
  refine WL.call Try.func45 rfl rfl rfl (rboth_any _ _ _ _ _ ((hO1.ext hx2).sl digC_length (by decide)) (hO2.sl digC_length (by decide)) (by omega)) (by simp) ?_; rintro v14 w3 hR3   -- t14 := call F45(t10, t13) : 23,23
  obtain ⟨hO3, hf3, hx3⟩ := hR3
  have hz3 := hx3.size
  have hE := hE.thenExt hx3
  have hbl : (bothD (aboveL (ndsL l) a) (aboveL (ndsL l) b)).length ≤ (aboveL (ndsL l) a).length := List.length_filter_le _ _
  refine WL.call Try.func16 rfl rfl rfl (rHeads_any _ _ l _ _ (hl0.ext hE) hok (hO3.sl digC_length (by decide)) (fun d hd => under_ids hok hina ((above_mem hok hina).1 (List.mem_filter.1 hd).1)) (by omega)) (by simp) ?_; rintro v15 w4 hR4   -- t15 := call F16(t7, t14) : 22,23
  obtain ⟨hO4, hf4, hx4⟩ := hR4
  have hz4 := hx4.size
  have hE := hE.thenExt hx4
  refine WL.val (Y.assign rfl) (by decide) ?_   -- t6 := assign t15
  refine WL.nil ?_
  refine hK2 _ _ ?_; try clear hK2 K2
  refine CW.ret ⟨_, rfl, ?_⟩
  exact ⟨hO4, fun k hk => by have := hf4 k hk; omega, hE⟩
theorem rWithin_any (u va vb : Value) (l : List NdV) (a b : List Dig) (w : World) (hl : Nds w u l) (hok : (readE (ndsL l)).2 = 0) (ha : Sl w digC 32 va a) (hb : Sl w digC 32 vb b) (hinb : ∀ d ∈ b, d ∈ idsL (ndsL l)) (hp : a.length * 32 ≤ 140737488351232) : Calls Try.prog 31 #[u, va, vb] w (Ret fun v w' => v = .bool (decide (∀ d ∈ a, d ∈ aboveL (ndsL l) b)) ∧ Ext w w') := by
  have hl0 := hl
  obtain ⟨A, c, rfl, hmc, hcm⟩ := hl.sl.lens
  unfold maxLen at hcm
  have ha0 := ha
  obtain ⟨A1, c1, rfl, hac, hax⟩ := ha.lens
  unfold maxLen at hax
  have hb0 := hb
  obtain ⟨A2, c2, rfl, hbc, hbx⟩ := hb.lens
  unfold maxLen at hbx
  have hnl : (ndsL l).length = l.length := by simp
  have hln := ok_len hok
  refine calls_of_CW 16 [6] [(0, .slice A l.length c), (1, .slice A1 a.length c1), (2, .slice A2 b.length c2)] Try.func31 rfl rfl rfl (by simp) args3 ?_
  have hE : Ext w w := Chg.refl
  refine CW.seq fun K1 hK1 => ?_
  refine CW.region ?_   -- region 0
  refine WL.val (Y.assign rfl) (by decide) ?_   -- t6 := assign c(false)
  refine WL.nil ?_
  refine hK1 _ _ ?_; try clear hK1 K1
  refine CW.seq fun K2 hK2 => ?_
  refine CW.region ?_   -- region 1
  refine WL.val (Y.move rfl) (by decide) ?_   -- t7 := move t1
  refine WL.val (Y.move rfl) (by decide) ?_   -- t8 := move t0
  refine WL.val (Y.move rfl) (by decide) ?_   -- t9 := move t2
  refine WL.call Try.func34 rfl rfl rfl (rAbove_any _ _ l b _ hl0 hok hb0 hinb) (by simp) ?_; rintro v10 w1 hR1   -- t10 := call F34(t8, t9) : 22,23
  obtain ⟨hO1, hf1, hx1⟩ := hR1
  have hz1 := hx1.size
  have hE := hE.thenExt hx1
  refine WL.call Try.func45 rfl rfl rfl (rboth_any _ _ _ _ _ (ha0.ext hE) (hO1.sl digC_length (by decide)) hp) (by simp) ?_; rintro v11 w2 hR2   -- t11 := call F45(t7, t10) : 23,23
  obtain ⟨hO2, hf2, hx2⟩ := hR2
  have hz2 := hx2.size
  have hE := hE.thenExt hx2
  obtain ⟨B2, m2, c3, rfl⟩ := hO2.lens
  have hl2 := (hO2.len digC_length (by decide)).1
  subst hl2
  refine WL.val (Y.len_slice Try.underlying23 rfl) (by decide) ?_   -- t12 := call len(t11) : 23
  refine WL.val (Y.move rfl) (by decide) ?_   -- t13 := move t1
  refine WL.val (Y.len_slice Try.underlying23 rfl) (by decide) ?_   -- t14 := call len(t13) : 23
  refine WL.val (Y.eql rfl rfl) (by decide) ?_   -- t15 := binOp eql 3 t12 t14 3
  refine WL.val (Y.assign rfl) (by decide) ?_   -- t6 := assign t15
  refine WL.nil ?_
  refine hK2 _ _ ?_; try clear hK2 K2
  refine CW.ret ⟨_, rfl, ?_⟩
  refine ⟨?_, hE⟩
  congr 1
  rw [Bool.eq_iff_iff, decide_eq_true_iff, decide_eq_true_iff, ← both_all]
  omega
set_option maxHeartbeats 1000000 in
theorem rOrder_any (u v0 : Value) (l : List NdV) (ids : List Dig) (w : World) (hl : Nds w u l) (hok : (readE (ndsL l)).2 = 0) (hd : Sl w digC 32 v0 ids) (hin : ∀ d ∈ ids, d ∈ idsL (ndsL l)) : Calls Try.prog 24 #[u, v0] w (Ret fun v w' => Own w' TDg 32 v (flatD (ordL (ndsL l) ids)) ∧ (∀ k, v.ownBlock = some k → w.heap.size ≤ k) ∧ Ext w w') := by
  have hl0 := hl
  obtain ⟨A, c, rfl, hmc, hcm⟩ := hl.sl.lens
  unfold maxLen at hcm
  have hd0 := hd
  obtain ⟨A1, c1, rfl, hdc, hdx⟩ := hd.lens
  unfold maxLen at hdx
  have hnl : (ndsL l).length = l.length := by simp
  have hln := ok_len hok
  refine calls_of_CW 57 [4] [(0, .slice A l.length c), (1, .slice A1 ids.length c1)] Try.func24 rfl rfl rfl (by simp) args2 ?_
  have hE : Ext w w := Chg.refl
  refine CW.seq fun K1 hK1 => ?_
  refine CW.region ?_   -- region 0
  refine WL.val (Y.assign rfl) (by decide) ?_   -- t4 := assign c(nilslice)
  refine WL.nil ?_
  refine hK1 _ _ ?_; try clear hK1 K1
  refine CW.seq fun K2 hK2 => ?_
  refine CW.region ?_   -- region 1
  refine WL.val (Y.move rfl) (by decide) ?_   -- t9 := move t0
  refine WL.val (Y.move rfl) (by decide) ?_   -- t10 := move t1
  refine WL.call Try.func34 rfl rfl rfl (rAbove_any _ _ l ids _ hl0 hok hd0 hin) (by simp) ?_; rintro v11 w1 hR1   -- t11 := call F34(t9, t10) : 22,23
  obtain ⟨hO1, hf1, hx1⟩ := hR1
  have hz1 := hx1.size
  have hE := hE.thenExt hx1
  have hal := above_length (l := ndsL l) (ids := ids)
  have hup := above_up hok (ids := ids)
  have hai : ∀ d ∈ aboveL (ndsL l) ids, d ∈ idsL (ndsL l) := fun d h => under_ids hok hin ((above_mem hok hin).1 h)
  have hcl := under_closed hok hin
  obtain ⟨all, hall⟩ : ∃ a, a = aboveL (ndsL l) ids := ⟨_, rfl⟩
  rw [← hall] at hO1 hal hup hai hcl
  obtain ⟨B, mb, cb, rfl⟩ := hO1.lens
  obtain ⟨hlb, hmb, hcb⟩ := hO1.len digC_length (by decide)
  unfold maxLen at hcb
  have hS := hO1.sl digC_length (by decide)
  have hlt1 := hO1.lt
  subst hlb
  refine WL.val (Y.assign rfl) (by decide) ?_   -- t5 := assign t11
  refine WL.nil ?_
  refine hK2 _ _ ?_; try clear hK2 K2
  refine CW.seq fun K3 hK3 => ?_
  refine CW.region ?_   -- region 2
  refine WL.val (Y.assign rfl) (by decide) ?_   -- t6 := assign c(nilslice)
  refine WL.nil ?_
  refine hK3 _ _ ?_; try clear hK3 K3
  refine CW.seq fun K4 hK4 => ?_
  refine CW.block ?_   -- block 0
  refine CW.loop (X := Nat × Value × List Dig) (fun x => [(0, .slice A l.length c), (5, .slice B all.length cb), (6, x.2.1)]) (fun x w0 => Came (ndsL l) all x.2.2 ∧ ordL (ndsL l) ids = orderQ (ndsL l) all x.1 x.2.2 ∧ x.2.2.length + x.1 = l.length + 1 ∧ Own w0 TDg 32 x.2.1 (flatD x.2.2) ∧ (∀ k, x.2.1.ownBlock = some k → w1.heap.size ≤ k) ∧ Sl w0 digC 32 (.slice B all.length cb) all ∧ Ext w w0 ∧ w1.heap.size ≤ w0.heap.size) (fun x => x.1) (l.length + 1, .slice none 0 0, []) (by repeat (first | exact Fr.le.nil | refine Fr.le.cons rfl ?_)) ⟨Came.nil, by rw [ordL, hnl, hall], by simp, Own.nil, (fun k h => by simp [Value.ownBlock] at h), hS, hE, Nat.le_refl _⟩ ?_
  intro x w2 hl2
  clear hE hS
  obtain ⟨fu, v, out⟩ := x
  dsimp only at hl2 ⊢
  obtain ⟨hcame, hord, hfo, hO, hfu, hS, hE, hz2⟩ := hl2
  have hole := hcame.le
  obtain ⟨B2, mb2, cb2, rfl⟩ := hO.lens
  have hlo := hO.lt
  have hl2 := (hO.len digC_length (by decide)).1
  subst hl2
  refine CW.seq fun K5 hK5 => ?_
  refine CW.seq fun K6 hK6 => ?_
  refine CW.region ?_   -- region 3
  refine WL.val (Y.move rfl) (by decide) ?_   -- t12 := move t6
  refine WL.val (Y.len_slice Try.underlying23 rfl) (by decide) ?_   -- t13 := call len(t12) : 23
  refine WL.val (Y.move rfl) (by decide) ?_   -- t14 := move t5
  refine WL.val (Y.len_slice Try.underlying23 rfl) (by decide) ?_   -- t15 := call len(t14) : 23
  refine WL.val (Y.lss rfl rfl) (by decide) ?_   -- t16 := binOp lss 3 t13 t15 3
  refine WL.nil ?_
  refine hK6 _ _ ?_; try clear hK6 K6
  first | refine CW.condD rfl (fun ht7 => ?_) (fun ht7 => ?_) | refine CW.condND rfl (fun ht7 => ?_) (fun ht7 => ?_) | refine CW.condN rfl (fun ht7 => ?_) (fun ht7 => ?_) | refine CW.cond rfl (fun ht7 => ?_) (fun ht7 => ?_)
  · -- then
    refine CW.skip ?_
    refine hK5 _ _ ?_; try clear hK5 K5
    refine CW.block ?_   -- block 1
    refine CW.seq fun K8 hK8 => ?_
    refine CW.region ?_   -- region 4
    refine WL.val (Y.assign rfl) (by decide) ?_   -- t7 := assign c(0:i64)
    refine WL.nil ?_
    refine hK8 _ _ ?_; try clear hK8 K8
    refine CW.block ?_   -- block 2
    refine CW.loop (X := Nat) (fun x => [(0, .slice A l.length c), (5, .slice B all.length cb), (6, .slice B2 out.length cb2), (7, .int .i64 (x : Int))]) (fun x w0 => x ≤ all.length ∧ (∀ y ∈ all.take x, mayQ (ndsL l) out y = false) ∧ Ext w2 w0) (fun x => all.length - x) 0 (by repeat (first | exact Fr.le.nil | refine Fr.le.cons rfl ?_)) ⟨Nat.zero_le _, (fun y h => by simp at h), Chg.refl⟩ ?_
    intro x w3 hl3
    obtain ⟨hxl, hno, hx3⟩ := hl3
    have hz3 := hx3.size
    have hE2 := hE
    have hE := hE.thenExt hx3
    have hS := hS.ext hx3
    have hO := hO.ext hx3
    refine CW.seq fun K9 hK9 => ?_
    refine CW.seq fun K10 hK10 => ?_
    refine CW.region ?_   -- region 5
    refine WL.val (Y.move rfl) (by decide) ?_   -- t17 := move t7
    refine WL.val (Y.move rfl) (by decide) ?_   -- t18 := move t5
    refine WL.val (Y.len_slice Try.underlying23 rfl) (by decide) ?_   -- t19 := call len(t18) : 23
    refine WL.val (Y.lss rfl rfl) (by decide) ?_   -- t20 := binOp lss 3 t17 t19 3
    refine WL.nil ?_
    refine hK10 _ _ ?_; try clear hK10 K10
    first | refine CW.condD rfl (fun ht11 => ?_) (fun ht11 => ?_) | refine CW.condND rfl (fun ht11 => ?_) (fun ht11 => ?_) | refine CW.condN rfl (fun ht11 => ?_) (fun ht11 => ?_) | refine CW.cond rfl (fun ht11 => ?_) (fun ht11 => ?_)
    · -- then
      refine CW.skip ?_
      refine hK9 _ _ ?_; try clear hK9 K9
      refine CW.seq fun K12 hK12 => ?_
      refine CW.block ?_   -- block 3
      refine CW.seq fun K13 hK13 => ?_
      obtain ⟨d, hdx⟩ : ∃ d, all[x]? = some d := ⟨_, List.getElem?_eq_getElem (by omega)⟩
      obtain ⟨aB, rfl, hmd⟩ := hS.at hdx
      have hdi := hai d (List.mem_of_getElem? hdx)
      obtain ⟨n0, hn0, hnid⟩ := at_ixN hdi
      have hix := ixN_lt hdi
      obtain ⟨y, hy⟩ : ∃ y, l[ixN (ndsL l) d]? = some y := ⟨_, List.getElem?_eq_getElem (by omega)⟩
      have hyn : (ndsL l)[ixN (ndsL l) d]? = some y.n := by simp [hy]
      obtain ⟨⟨id, ps⟩, Ay, cy⟩ := y
      obtain ⟨aN, rfl, hmn⟩ := hl0.sl.at hy
      have hps := hl0.ps _ (List.mem_of_getElem? hy)
      dsimp only [NdV.pv] at hps hyn
      have hp8 : ps.length ≤ 8 := (wrong_ok (ok_at hok hyn)).1
      have hpar : parD (ndsL l) d = ps := by rw [parD, hyn]; rfl
      have hmq : mayQ (ndsL l) out d = true ↔ ¬ d ∈ out ∧ (bothD ps out).length = ps.length := by rw [mayQ_iff, both_all, hpar]
      refine CW.region ?_   -- region 7
      refine WL.val (Y.move rfl) (by decide) ?_   -- t23 := move t0
      refine WL.val (Y.move rfl) (by decide) ?_   -- t24 := move t0
      refine WL.val (Y.move rfl) (by decide) ?_   -- t25 := move t5
      refine WL.val (Y.move rfl) (by decide) ?_   -- t26 := move t7
      refine WL.val (Y.indexAddrN Try.underlying23 rfl rfl sz0_apiDigest (by omega)) (by decide) ?_   -- t27 := indexAddr 23 t25 t26
      refine WL.val (Y.load Try.underlying45 rfl hmd (sz_apiDigest _) rfl) (by decide) ?_   -- t28 := load 45 t27
      refine WL.call Try.func26 rfl rfl rfl (rFindIn_any _ l d _ (hl0.ext hE) hdi) (by simp) ?_; rintro v w4 ⟨rfl, hx4⟩; have hz4 := hx4.size; have hE := hE.thenExt hx4   -- t29 := call F26(t24, t28) : 22,45
      refine WL.val (Y.indexAddrN Try.underlying22 rfl rfl sz0_apiNode (by omega)) (by decide) ?_   -- t30 := indexAddr 22 t23 t29
      refine WL.val (Y.fieldAddr fo_apiNode1 rfl) (by decide) ?_   -- t31 := fieldAddr 48 t30 1
      refine WL.val (Y.load1 Try.underlying23 rfl (hmn.ext hE).node1 rfl) (by decide) ?_   -- t32 := load 23 t31
      refine WL.val (Y.assign rfl) (by decide) ?_   -- t8 := assign t32
      refine WL.nil ?_
      refine hK13 _ _ ?_; try clear hK13 K13
      refine CW.seq_testE 48 (¬ d ∈ out ∧ (bothD ps out).length = ps.length) ?_ ?_
      · refine CW.region ?_
        refine WL.val (Y.move rfl) (by decide) ?_   -- t33 := move t6
        refine WL.val (Y.move rfl) (by decide) ?_   -- t34 := move t5
        refine WL.val (Y.move rfl) (by decide) ?_   -- t35 := move t7
        refine WL.val (Y.indexAddrN Try.underlying23 rfl rfl sz0_apiDigest (by omega)) (by decide) ?_   -- t36 := indexAddr 23 t34 t35
        refine WL.val (Y.load Try.underlying45 rfl (hmd.ext hx4) (sz_apiDigest _) rfl) (by decide) ?_   -- t37 := load 45 t36
        refine WL.call Try.func27 rfl rfl rfl (rIn_any _ out d _ ((hO.ext hx4).sl digC_length (by decide))) (by simp) ?_; rintro v w5 ⟨rfl, hx5⟩; have hz5 := hx5.size; have hE := hE.thenExt hx5   -- t38 := call F27(t33, t37) : 23,45
        refine WL.val (Y.not rfl) (by decide) ?_   -- t39 := unOp not 4 t38
        refine WL.val (Y.move rfl) (by decide) ?_   -- t40 := move t39
        first | refine WL.casesD (d := 40) rfl (fun hg40 => ?_) (fun hg40 => ?_) | refine WL.casesND (d := 40) rfl (fun hg40 => ?_) (fun hg40 => ?_) | refine WL.cases (d := 40) rfl (fun hg40 => ?_) (fun hg40 => ?_)
        · -- t40 = T
          refine WL.gval rfl rfl (Y.move rfl) (by decide) ?_   -- t41 := move t8 [if 7=true]
          refine WL.gval rfl rfl (Y.move rfl) (by decide) ?_   -- t42 := move t6 [if 7=true]
          refine WL.gcall rfl rfl Try.func45 rfl rfl rfl (rboth_any _ _ ps out _ (hps.ext hE) (((hO.ext hx4).ext hx5).sl digC_length (by decide)) (by omega)) (by decide) ?_; rintro v43 w6 hR6   -- t43 := call F45(t41, t42) : 23,23 [if 7=true]
          obtain ⟨hO6, hf6, hx6⟩ := hR6
          have hz6 := hx6.size
          have hE := hE.thenExt hx6
          obtain ⟨B6, m6, c6, rfl⟩ := hO6.lens
          have hl6 := (hO6.len digC_length (by decide)).1
          subst hl6
          refine WL.gval rfl rfl (Y.len_slice Try.underlying23 rfl) (by decide) ?_   -- t44 := call len(t43) : 23 [if 7=true]
          refine WL.gval rfl rfl (Y.move rfl) (by decide) ?_   -- t45 := move t8 [if 7=true]
          refine WL.gval rfl rfl (Y.len_slice Try.underlying23 rfl) (by decide) ?_   -- t46 := call len(t45) : 23 [if 7=true]
          refine WL.gval rfl rfl (Y.eql rfl rfl) (by decide) ?_   -- t47 := binOp eql 3 t44 t46 3 [if 7=true]
          refine WL.val (Y.pick rfl rfl) (by decide) ?_   -- t48 := pick t40 t47 c(false)
          refine WL.nil ⟨⟨_, rfl, ?_⟩, (hx5.thenExt hx6), (by repeat (first | exact Fr.le.refl | refine Fr.le.push rfl ?_))⟩
          first | (simp only [*, Int.natCast_inj, Bool.not_eq_true', decide_eq_false_iff_not, decide_eq_true_eq, not_true_eq_false, not_false_eq_true, true_and, false_and, and_true, and_false, false_or, or_false, true_or, or_true, iff_true, true_iff, iff_false, false_iff]; done) | (simp_all; done) | (refine congrArg Value.bool (Bool.eq_iff_iff.2 ?_); simp_all; done) | (simp_all; omega)
        · -- t40 = F
          refine WL.goff rfl rfl (by decide) ?_   -- t41 := move t8 [if 7=true]
          refine WL.goff rfl rfl (by decide) ?_   -- t42 := move t6 [if 7=true]
          refine WL.goff rfl rfl (by decide) ?_   -- t43 := call F45(t41, t42) : 23,23 [if 7=true]
          refine WL.goff rfl rfl (by decide) ?_   -- t44 := call len(t43) : 23 [if 7=true]
          refine WL.goff rfl rfl (by decide) ?_   -- t45 := move t8 [if 7=true]
          refine WL.goff rfl rfl (by decide) ?_   -- t46 := call len(t45) : 23 [if 7=true]
          refine WL.goff rfl rfl (by decide) ?_   -- t47 := binOp eql 3 t44 t46 3 [if 7=true]
          refine WL.val (Y.pick rfl rfl) (by decide) ?_   -- t48 := pick t40 t47 c(false)
          refine WL.nil ⟨⟨_, rfl, ?_⟩, hx5, (by repeat (first | exact Fr.le.refl | refine Fr.le.push rfl ?_))⟩
          first | (simp only [*, Int.natCast_inj, Bool.not_eq_true', decide_eq_false_iff_not, decide_eq_true_eq, not_true_eq_false, not_false_eq_true, true_and, false_and, and_true, and_false, false_or, or_false, true_or, or_true, iff_true, true_iff, iff_false, false_iff]; done) | (simp_all; done) | (refine congrArg Value.bool (Bool.eq_iff_iff.2 ?_); simp_all; done) | (simp_all; omega)
      intro w7 hx7; have hz7 := hx7.size; have hE := hE.thenExt hx7
      first | refine CW.condD rfl (fun ht14 => ?_) (fun ht14 => ?_) | refine CW.condND rfl (fun ht14 => ?_) (fun ht14 => ?_) | refine CW.condN rfl (fun ht14 => ?_) (fun ht14 => ?_) | refine CW.cond rfl (fun ht14 => ?_) (fun ht14 => ?_)
      · -- then
        refine CW.seq fun K15 hK15 => ?_
        refine CW.region ?_   -- region 9
        refine WL.val (Y.move rfl) (by decide) ?_   -- t49 := move t6
        refine WL.val (Y.move rfl) (by decide) ?_   -- t50 := move t5
        refine WL.val (Y.move rfl) (by decide) ?_   -- t51 := move t7
        refine WL.val (Y.indexAddrN Try.underlying23 rfl rfl sz0_apiDigest (by omega)) (by decide) ?_   -- t52 := indexAddr 23 t50 t51
        refine WL.val (Y.load Try.underlying45 rfl ((hmd.ext hx4).ext hx7) (sz_apiDigest _) rfl) (by decide) ?_   -- t53 := load 45 t52
        refine WL.st (St.buildSlice rfl (bs1_dig _)) (by decide) fun v54 w8 hR8 => ?_   -- t54 := buildSlice 23 1 [(0,t53)]
        obtain ⟨gg, rfl, hgg, hBg, hx8⟩ := hR8
        have hz8 := hx8.size
        have hE := hE.thenExt hx8
        refine WL.st (St.append Try.underlying23 Try.underlying23 ai_dig rfl rfl (((hO.ext hx4).ext hx7).ext hx8) (Src.one hBg (digC_length _)) one_digC (by rw [flat_length digC_length]; omega)) (by decide) fun v55 w9 hR9 => ?_   -- t55 := call append(t49, t54) : 23,23
        obtain ⟨hO9, hc9, hf9⟩ := hR9
        have hz9 := hc9.size
        have hE := hE.step hc9 (fun k h => by have := hfu k h; omega)
        have hf9 : ∀ k, v55.ownBlock = some k → w1.heap.size ≤ k := by
          rcases hf9 with h | h
          · intro k hk; rw [h] at hk; exact hfu k hk
          · intro k hk; have := h k hk; omega
        refine WL.val (Y.assign rfl) (by decide) ?_   -- t6 := assign t55
        refine WL.nil ?_
        refine hK15 _ _ ?_; try clear hK15 K15
        refine CW.exit ?_   -- exit 2
        have hnx : nextQ (ndsL l) all out = some d := find_at hdx (hmq.2 ht14) hno
        have hml := (hcame.more hnx).le
        rw [List.length_append, List.length_singleton] at hml
        obtain ⟨k, rfl⟩ : ∃ k, fu = k + 1 := ⟨fu - 1, by omega⟩
        exact ⟨(k, v55, out ++ [d]), by show k < k + 1; omega, (by repeat (first | exact Fr.le.nil | refine Fr.le.cons rfl ?_)), hcame.more hnx, by rw [hord, orderQ_some hnx], by show (out ++ [d]).length + k = _; rw [List.length_append, List.length_singleton]; omega, by simpa [flatD] using hO9, hf9, (((hS.ext hx4).ext hx7).ext hx8).chg hc9 (fun q hk h => by have := hfu q h; have := hlt1 q hk; omega), hE, by omega⟩
      -- else
      refine CW.skip ?_
      refine hK12 _ _ ?_; try clear hK12 K12
      refine CW.region ?_   -- region 6
      refine WL.val (Y.move rfl) (by decide) ?_   -- t21 := move t7
      refine WL.val (Y.add rfl rfl ⟨by omega, by omega⟩) (by decide) ?_   -- t22 := binOp add 3 t21 c(1:i64) 3
      refine WL.val (Y.assign rfl) (by decide) ?_   -- t7 := assign t22
      refine WL.nil ?_
      refine ⟨x + 1, by show all.length - (x + 1) < all.length - x; omega, (by repeat (first | exact Fr.le.nil | refine Fr.le.cons rfl ?_)), by show x + 1 ≤ all.length; omega, ?_, (hx3.thenExt hx4).thenExt hx7⟩
      intro z hz
      rw [take_succ hdx] at hz
      rcases List.mem_append.1 hz with hz | hz
      · exact hno z hz
      · simp at hz; subst hz
        exact Bool.eq_false_iff.2 fun h => (by assumption : ¬ (¬ z ∈ out ∧ (bothD ps out).length = ps.length)) (hmq.1 h)
    -- else
    refine CW.exit ?_   -- exit 2
    exfalso
    obtain ⟨d, hd⟩ := Came.next (out := out) hok hai hcl hup (by omega)
    have h1 := nextQ_some hd
    have h2 := List.find?_some hd
    have h3 := hno d (by rw [List.take_of_length_le (by omega)]; exact h1.1)
    rw [h3] at h2; cases h2
  -- else
  refine CW.exit ?_   -- exit 0
  refine hK4 _ _ ?_; try clear hK4 K4
  refine CW.seq fun K16 hK16 => ?_
  refine CW.region ?_   -- region 10
  refine WL.val (Y.move rfl) (by decide) ?_   -- t56 := move t6
  refine WL.val (Y.assign rfl) (by decide) ?_   -- t4 := assign t56
  refine WL.nil ?_
  refine hK16 _ _ ?_; try clear hK16 K16
  refine CW.ret ⟨_, rfl, ?_⟩
  have hfl := hcame.full (by omega)
  exact ⟨by rw [hord, orderQ_none hfl]; exact hO, fun k hk => by have := hfu k hk; omega, hE⟩
theorem rLacks_any (u va vb : Value) (l : List NdV) (a b : List Dig) (w : World) (hl : Nds w u l) (hok : (readE (ndsL l)).2 = 0) (ha : Sl w digC 32 va a) (hb : Sl w digC 32 vb b) (hina : ∀ d ∈ a, d ∈ idsL (ndsL l)) (hinb : ∀ d ∈ b, d ∈ idsL (ndsL l)) : Calls Try.prog 25 #[u, va, vb] w (Ret fun v w' => Own w' TDg 32 v (flatD ((ordL (ndsL l) a).filter fun d => !decide (d ∈ aboveL (ndsL l) b))) ∧ (∀ k, v.ownBlock = some k → w.heap.size ≤ k) ∧ Ext w w') := by
  have hl0 := hl
  obtain ⟨A, c, rfl, hmc, hcm⟩ := hl.sl.lens
  unfold maxLen at hcm
  have ha0 := ha
  obtain ⟨A1, c1, rfl, hac, hax⟩ := ha.lens
  unfold maxLen at hax
  have hb0 := hb
  obtain ⟨A2, c2, rfl, hbc, hbx⟩ := hb.lens
  unfold maxLen at hbx
  have hnl : (ndsL l).length = l.length := by simp
  have hln := ok_len hok
  refine calls_of_CW 38 [6] [(0, .slice A l.length c), (1, .slice A1 a.length c1), (2, .slice A2 b.length c2)] Try.func25 rfl rfl rfl (by simp) args3 ?_
  have hE : Ext w w := Chg.refl
  refine CW.seq fun K1 hK1 => ?_
  refine CW.region ?_   -- region 0
  refine WL.val (Y.assign rfl) (by decide) ?_   -- t6 := assign c(nilslice)
  refine WL.nil ?_
  refine hK1 _ _ ?_; try clear hK1 K1
  refine CW.seq fun K2 hK2 => ?_
  refine CW.region ?_   -- region 1
  refine WL.val (Y.move rfl) (by decide) ?_   -- t11 := move t0
  refine WL.val (Y.move rfl) (by decide) ?_   -- t12 := move t1
  refine WL.call Try.func24 rfl rfl rfl (rOrder_any _ _ l a _ hl0 hok ha0 hina) (by simp) ?_; rintro v13 w1 hR1   -- t13 := call F24(t11, t12) : 22,23
  obtain ⟨hO1, hf1, hx1⟩ := hR1
  have hz1 := hx1.size
  have hE := hE.thenExt hx1
  have hal : (ordL (ndsL l) a).length ≤ (ndsL l).length := Nat.le_trans (ordL_came hok hina).1.le above_length
  obtain ⟨all, hall⟩ : ∃ x, x = ordL (ndsL l) a := ⟨_, rfl⟩
  rw [← hall] at hO1 hal
  obtain ⟨B, mb, cb, rfl⟩ := hO1.lens
  obtain ⟨hlb, hmb, hcb⟩ := hO1.len digC_length (by decide)
  unfold maxLen at hcb
  have hS := hO1.sl digC_length (by decide)
  have hlt1 := hO1.lt
  subst hlb
  refine WL.val (Y.assign rfl) (by decide) ?_   -- t7 := assign t13
  refine WL.nil ?_
  refine hK2 _ _ ?_; try clear hK2 K2
  refine CW.seq fun K3 hK3 => ?_
  refine CW.region ?_   -- region 2
  refine WL.val (Y.move rfl) (by decide) ?_   -- t14 := move t0
  refine WL.val (Y.move rfl) (by decide) ?_   -- t15 := move t2
  refine WL.call Try.func34 rfl rfl rfl (rAbove_any _ _ l b _ (hl0.ext hE) hok (hb0.ext hE) hinb) (by simp) ?_; rintro v16 w2 hR2   -- t16 := call F34(t14, t15) : 22,23
  obtain ⟨hO2, hf2, hx2⟩ := hR2
  have hz2 := hx2.size
  have hE := hE.thenExt hx2
  have hS := hS.ext hx2
  obtain ⟨hs, hhs⟩ : ∃ x, x = aboveL (ndsL l) b := ⟨_, rfl⟩
  rw [← hhs] at hO2
  obtain ⟨B8, m8, c8, rfl⟩ := hO2.lens
  have hl8 := (hO2.len digC_length (by decide)).1
  have hS2 := hO2.sl digC_length (by decide)
  have hlt2 := hO2.lt
  subst hl8
  refine WL.val (Y.assign rfl) (by decide) ?_   -- t8 := assign t16
  refine WL.nil ?_
  refine hK3 _ _ ?_; try clear hK3 K3
  refine CW.seq fun K4 hK4 => ?_
  refine CW.region ?_   -- region 3
  refine WL.val (Y.assign rfl) (by decide) ?_   -- t9 := assign c(nilslice)
  refine WL.nil ?_
  refine hK4 _ _ ?_; try clear hK4 K4
  refine CW.seq fun K5 hK5 => ?_
  refine CW.seq fun K6 hK6 => ?_
  refine CW.region ?_   -- region 4
  refine WL.val (Y.assign rfl) (by decide) ?_   -- t10 := assign c(0:i64)
  refine WL.nil ?_
  refine hK6 _ _ ?_; try clear hK6 K6
  refine CW.block ?_   -- block 0
  refine CW.loop (X := Nat × Value) (fun x => [(7, .slice B all.length cb), (8, .slice B8 hs.length c8), (9, x.2), (10, .int .i64 (x.1 : Int))]) (fun x w0 => x.1 ≤ all.length ∧ Own w0 TDg 32 x.2 (flatD ((all.take x.1).filter fun d => !decide (d ∈ hs))) ∧ (∀ k, x.2.ownBlock = some k → w2.heap.size ≤ k) ∧ Sl w0 digC 32 (.slice B all.length cb) all ∧ Sl w0 digC 32 (.slice B8 hs.length c8) hs ∧ Ext w w0 ∧ w2.heap.size ≤ w0.heap.size) (fun x => all.length - x.1) (0, .slice none 0 0) (by repeat (first | exact Fr.le.nil | refine Fr.le.cons rfl ?_)) ⟨Nat.zero_le _, by simpa [flatD] using Own.nil, (fun k h => by simp [Value.ownBlock] at h), hS, hS2, hE, Nat.le_refl _⟩ ?_
  intro x w3 hl3
  clear hE hS hS2
  obtain ⟨i, v⟩ := x
  dsimp only at hl3 ⊢
  obtain ⟨hil, hO, hfu, hS, hS2, hE, hz3⟩ := hl3
  have hol : ((all.take i).filter fun d => !decide (d ∈ hs)).length ≤ i := Nat.le_trans (List.length_filter_le _ _) (by rw [List.length_take]; omega)
  obtain ⟨B3, mb3, cb3, rfl⟩ := hO.lens
  have hlo := hO.lt
  have hzE := hE.size
  refine CW.seq fun K7 hK7 => ?_
  refine CW.seq fun K8 hK8 => ?_
  refine CW.region ?_   -- region 5
  refine WL.val (Y.move rfl) (by decide) ?_   -- t17 := move t10
  refine WL.val (Y.move rfl) (by decide) ?_   -- t18 := move t7
  refine WL.val (Y.len_slice Try.underlying23 rfl) (by decide) ?_   -- t19 := call len(t18) : 23
  refine WL.val (Y.lss rfl rfl) (by decide) ?_   -- t20 := binOp lss 3 t17 t19 3
  refine WL.nil ?_
  refine hK8 _ _ ?_; try clear hK8 K8
  first | refine CW.condD rfl (fun ht9 => ?_) (fun ht9 => ?_) | refine CW.condND rfl (fun ht9 => ?_) (fun ht9 => ?_) | refine CW.condN rfl (fun ht9 => ?_) (fun ht9 => ?_) | refine CW.cond rfl (fun ht9 => ?_) (fun ht9 => ?_)
  · -- then
    refine CW.skip ?_
    refine hK7 _ _ ?_; try clear hK7 K7
    obtain ⟨d, hdi⟩ : ∃ d, all[i]? = some d := ⟨_, List.getElem?_eq_getElem (by omega)⟩
    obtain ⟨aB, rfl, hma⟩ := hS.at hdi
    have hsel : ((all.take (i + 1)).filter fun d => !decide (d ∈ hs)) = if d ∈ hs then (all.take i).filter fun d => !decide (d ∈ hs) else ((all.take i).filter fun d => !decide (d ∈ hs)) ++ [d] := by
      rw [take_succ hdi, List.filter_append]
      by_cases h : d ∈ hs <;> simp [h]
    refine CW.seq_to (X := Value) (fun u => [(7, .slice (some aB) all.length cb), (8, .slice B8 hs.length c8), (9, u), (10, .int .i64 (i : Int))]) (fun u w0 => Own w0 TDg 32 u (flatD ((all.take (i + 1)).filter fun d => !decide (d ∈ hs))) ∧ (∀ k, u.ownBlock = some k → w2.heap.size ≤ k) ∧ Sl w0 digC 32 (.slice (some aB) all.length cb) all ∧ Sl w0 digC 32 (.slice B8 hs.length c8) hs ∧ Ext w w0 ∧ w2.heap.size ≤ w0.heap.size) ?_ ?_
    · skip
      refine CW.block ?_   -- block 1
      refine CW.seq fun K11 hK11 => ?_
      refine CW.region ?_   -- region 7
      refine WL.val (Y.move rfl) (by decide) ?_   -- t23 := move t8
      refine WL.val (Y.move rfl) (by decide) ?_   -- t24 := move t7
      refine WL.val (Y.move rfl) (by decide) ?_   -- t25 := move t10
      refine WL.val (Y.indexAddrN Try.underlying23 rfl rfl sz0_apiDigest (by omega)) (by decide) ?_   -- t26 := indexAddr 23 t24 t25
      refine WL.val (Y.load Try.underlying45 rfl hma (sz_apiDigest _) rfl) (by decide) ?_   -- t27 := load 45 t26
      refine WL.call Try.func27 rfl rfl rfl (rIn_any _ hs d _ hS2) (by simp) ?_; rintro v w4 ⟨rfl, hx4⟩; have hz4 := hx4.size; have hE := hE.thenExt hx4   -- t28 := call F27(t23, t27) : 23,45
      refine WL.val (Y.not rfl) (by decide) ?_   -- t29 := unOp not 4 t28
      refine WL.nil ?_
      refine hK11 _ _ ?_; try clear hK11 K11
      first | refine CW.condD rfl (fun ht12 => ?_) (fun ht12 => ?_) | refine CW.condND rfl (fun ht12 => ?_) (fun ht12 => ?_) | refine CW.condN rfl (fun ht12 => ?_) (fun ht12 => ?_) | refine CW.cond rfl (fun ht12 => ?_) (fun ht12 => ?_)
      · -- then
        refine CW.region ?_   -- region 8
        refine WL.val (Y.move rfl) (by decide) ?_   -- t30 := move t9
        refine WL.val (Y.move rfl) (by decide) ?_   -- t31 := move t7
        refine WL.val (Y.move rfl) (by decide) ?_   -- t32 := move t10
        refine WL.val (Y.indexAddrN Try.underlying23 rfl rfl sz0_apiDigest (by omega)) (by decide) ?_   -- t33 := indexAddr 23 t31 t32
        refine WL.val (Y.load Try.underlying45 rfl (hma.ext hx4) (sz_apiDigest _) rfl) (by decide) ?_   -- t34 := load 45 t33
        refine WL.st (St.buildSlice rfl (bs1_dig _)) (by decide) fun v35 w5 hR5 => ?_   -- t35 := buildSlice 23 1 [(0,t34)]
        obtain ⟨gg, rfl, hgg, hBg, hx5⟩ := hR5
        have hz5 := hx5.size
        have hE := hE.thenExt hx5
        have hS := (hS.ext hx4).ext hx5
        have hS2 := (hS2.ext hx4).ext hx5
        refine WL.st (St.append Try.underlying23 Try.underlying23 ai_dig rfl rfl ((hO.ext hx4).ext hx5) (Src.one hBg (digC_length _)) one_digC (by rw [flat_length digC_length]; omega)) (by decide) fun v36 w6 hR6 => ?_   -- t36 := call append(t30, t35) : 23,23
        obtain ⟨hO6, hc6, hf6⟩ := hR6
        have hz6 := hc6.size
        have hE := hE.step hc6 (fun k h => by have := hfu k h; omega)
        have hf6 : ∀ k, v36.ownBlock = some k → w2.heap.size ≤ k := by
          rcases hf6 with h | h
          · intro k hk; rw [h] at hk; exact hfu k hk
          · intro k hk; have := h k hk; omega
        have hS := hS.chg hc6 (fun k hk h => by have := hfu k h; have := hlt1 k hk; omega)
        have hS2 := hS2.chg hc6 (fun k hk h => by have := hfu k h; have := hlt2 k hk; omega)
        refine WL.val (Y.assign rfl) (by decide) ?_   -- t9 := assign t36
        refine WL.nil ?_
        exact ⟨v36, (by repeat (first | exact Fr.le.nil | refine Fr.le.cons rfl ?_)), by rw [hsel, if_neg (by simp_all)]; simpa [flatD] using hO6, hf6, hS, hS2, hE, by omega⟩
      -- else
      refine CW.skip ?_
      exact ⟨.slice B3 mb3 cb3, (by repeat (first | exact Fr.le.nil | refine Fr.le.cons rfl ?_)), by rw [hsel, if_pos (by simp_all)]; exact hO.ext hx4, hfu, hS.ext hx4, hS2.ext hx4, hE, by omega⟩
    rintro u w7 hj7
    clear hE hO hfu hS hS2
    obtain ⟨hO, hfu, hS, hS2, hE, hz7⟩ := hj7
    refine CW.region ?_   -- region 6
    refine WL.val (Y.move rfl) (by decide) ?_   -- t21 := move t10
    refine WL.val (Y.add rfl rfl ⟨by omega, by omega⟩) (by decide) ?_   -- t22 := binOp add 3 t21 c(1:i64) 3
    refine WL.val (Y.assign rfl) (by decide) ?_   -- t10 := assign t22
    refine WL.nil ?_
    exact ⟨(i + 1, u), by show all.length - (i + 1) < all.length - i; omega, (by repeat (first | exact Fr.le.nil | refine Fr.le.cons rfl ?_)), by show i + 1 ≤ all.length; omega, hO, hfu, hS, hS2, hE, by omega⟩
  -- else
  refine CW.exit ?_   -- exit 0
  refine hK5 _ _ ?_; try clear hK5 K5
  refine CW.seq fun K13 hK13 => ?_
  refine CW.region ?_   -- region 9
  refine WL.val (Y.move rfl) (by decide) ?_   -- t37 := move t9
  refine WL.val (Y.assign rfl) (by decide) ?_   -- t6 := assign t37
  refine WL.nil ?_
  refine hK13 _ _ ?_; try clear hK13 K13
  refine CW.ret ⟨_, rfl, ?_⟩
  have hi2 : i = all.length := by omega
  subst hi2
  rw [List.take_length] at hO
  exact ⟨by rw [← hall, ← hhs]; exact hO, fun k hk => by have := hfu k hk; omega, hE⟩
theorem two_any (u v0 : Value) (a b : List Dig) (w : World) (hl : Sl w digC 32 u a) (hd : Sl w digC 32 v0 b) (hp : (a.length + b.length) * 32 ≤ 140737488355328) : Calls Try.prog 19 #[u, v0] w (Ret fun v w' => Own w' TDg 32 v (flatD (a ++ b)) ∧ (∀ k, v.ownBlock = some k → w.heap.size ≤ k) ∧ Ext w w') := by
  have hl0 := hl
  obtain ⟨A, c, rfl, hmc, hcm⟩ := hl.lens
  unfold maxLen at hcm
  have hd0 := hd
  obtain ⟨A1, c1, rfl, hdc, hdx⟩ := hd.lens
  unfold maxLen at hdx
  
  refine calls_of_CW 10 [4] [(0, .slice A a.length c), (1, .slice A1 b.length c1)] Try.func19 rfl rfl rfl (by simp) args2 ?_
  have hE : Ext w w := Chg.refl
  refine CW.seq fun K1 hK1 => ?_
  refine CW.region ?_   -- region 0
  refine WL.val (Y.assign rfl) (by decide) ?_   -- t4 := assign c(nilslice)
  refine WL.nil ?_
  refine hK1 _ _ ?_; try clear hK1 K1
  refine CW.seq fun K2 hK2 => ?_
  refine CW.region ?_   -- region 1
  refine WL.st (St.buildSlice0 Try.underlying23 sz0_apiDigest) (by decide) fun v5 w1 hR1 => ?_   -- t5 := buildSlice 23 0 []
  obtain ⟨g5, rfl, hg5, hO1, hx1⟩ := hR1
  have hz1 := hx1.size
  have hE := hE.thenExt hx1
  have hf1 : ∀ k, (Value.slice (some ⟨g5, 0, none⟩) 0 0).ownBlock = some k → w.heap.size ≤ k := fun k h => by simp [Value.ownBlock] at h; omega
  refine WL.val (Y.move rfl) (by decide) ?_   -- t6 := move t0
  refine WL.st (St.append Try.underlying23 Try.underlying23 ai_dig rfl rfl hO1 ((hl0.ext hE).src digC_length) (one_flatD a) (by simp only [List.length_nil]; omega)) (by decide) fun v7 w2 hR2 => ?_   -- t7 := call append(t5, t6) : 23,23
  obtain ⟨hO2, hc2, hf2⟩ := hR2
  have hz2 := hc2.size
  have hE := hE.step hc2 (fun k h => by have := hf1 k h; omega)
  rw [List.nil_append] at hO2
  have hf2 : ∀ k, v7.ownBlock = some k → w.heap.size ≤ k := by
    rcases hf2 with h | h
    · intro k hk; rw [h] at hk; have := hf1 k hk; omega
    · intro k hk; have := h k hk; omega
  refine WL.val (Y.move rfl) (by decide) ?_   -- t8 := move t1
  refine WL.st (St.append Try.underlying23 Try.underlying23 ai_dig rfl rfl hO2 ((hd0.ext hE).src digC_length) (one_flatD b) (by rw [show (List.map digC a).flatten = flatD a from rfl, flat_length digC_length]; omega)) (by decide) fun v9 w3 hR3 => ?_   -- t9 := call append(t7, t8) : 23,23
  obtain ⟨hO3, hc3, hf3⟩ := hR3
  have hz3 := hc3.size
  have hE := hE.step hc3 (fun k h => by have := hf2 k h; omega)
  refine WL.val (Y.assign rfl) (by decide) ?_   -- t4 := assign t9
  refine WL.nil ?_
  refine hK2 _ _ ?_; try clear hK2 K2
  refine CW.ret ⟨_, rfl, ?_⟩
  exact ⟨by rw [flatD_app]; exact hO3, (by
    rcases hf3 with h | h
    · intro k hk; rw [h] at hk; exact hf2 k hk
    · intro k hk; have := h k hk; omega), hE⟩
end Go.Proofs.Ytecolkngbcgmcaa
