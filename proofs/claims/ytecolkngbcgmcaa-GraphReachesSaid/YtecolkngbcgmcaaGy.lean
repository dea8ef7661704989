/- The reference's marks, Above, both, Heads, Common, Within, walked. No condition. -/
import Derived.Test.YtecolkngbcgmcaaGq
import Derived.Test.YtecolkngbcgmcaaGx
import Derived.Test.YtecolkngbcgmcaaSm
set_option linter.unusedSimpArgs false
set_option linter.unusedVariables false
namespace Go.Pl
open Go.Fw
/-- Those of the first k at whose places p holds. -/
def selD (p : Nat → Bool) (all : List Dig) : Nat → List Dig
  | 0 => []
  | i + 1 => match all[i]? with
    | some d => if p i = true then selD p all i ++ [d] else selD p all i
    | none => selD p all i
section
variable {p : Nat → Bool} {all : List Dig}
theorem selD_at {i : Nat} {d : Dig} (h : all[i]? = some d) : selD p all (i + 1) = if p i = true then selD p all i ++ [d] else selD p all i := by rw [selD, h]
theorem selD_len : ∀ {k : Nat}, (selD p all k).length ≤ k
  | 0 => Nat.le_refl _
  | k + 1 => by
    have := selD_len (k := k)
    rw [selD]
    split
    · split <;> (try rw [List.length_append, List.length_singleton]) <;> omega
    · omega
theorem selD_mem {d : Dig} : ∀ {k : Nat}, d ∈ selD p all k ↔ ∃ i, i < k ∧ all[i]? = some d ∧ p i = true
  | 0 => by simp [selD]
  | k + 1 => by
    have ih := selD_mem (d := d) (k := k)
    have hs : (∃ i, i < k + 1 ∧ all[i]? = some d ∧ p i = true) ↔ (∃ i, i < k ∧ all[i]? = some d ∧ p i = true) ∨ (all[k]? = some d ∧ p k = true) := by
      constructor
      · rintro ⟨i, hi, h1, h2⟩
        by_cases e : i = k
        · subst e; exact .inr ⟨h1, h2⟩
        · exact .inl ⟨i, by omega, h1, h2⟩
      · rintro (⟨i, hi, h1, h2⟩ | ⟨h1, h2⟩)
        · exact ⟨i, by omega, h1, h2⟩
        · exact ⟨k, by omega, h1, h2⟩
    rw [hs, selD]
    cases hk : all[k]? with
    | none => simpa using ih
    | some x =>
      simp only
      by_cases hp : p k = true
      · rw [if_pos hp, List.mem_append, ih, List.mem_singleton]
        exact or_congr Iff.rfl ⟨fun e => ⟨by rw [e], hp⟩, fun e => (Option.some.inj e.1).symm⟩
      · rw [if_neg hp, ih]
        simp [hp]
theorem selD_sub : ∀ {k : Nat}, (selD p all k).Sublist (all.take k)
  | 0 => by simp [selD]
  | k + 1 => by
    have ih := selD_sub (k := k)
    rw [selD]
    cases hk : all[k]? with
    | none =>
      have hl : all.length ≤ k := List.getElem?_eq_none_iff.1 hk
      rw [List.take_of_length_le (by omega)] at ih ⊢
      exact ih
    | some x =>
      simp only
      rw [take_succ hk]
      split
      · exact ih.append (List.Sublist.refl _)
      · exact ih.trans (List.sublist_append_left _ _)
theorem selD_up {k : Nat} (h : Up all) : Up (selD p all k) := List.Pairwise.sublist (selD_sub.trans (List.take_sublist k all)) h
theorem selD_filter {q : Dig → Bool} (h : ∀ i d, all[i]? = some d → p i = q d) : ∀ {k : Nat}, k ≤ all.length → selD p all k = (all.take k).filter q
  | 0, _ => by simp [selD]
  | k + 1, hk => by
    obtain ⟨d, hd⟩ : ∃ d, all[k]? = some d := ⟨_, List.getElem?_eq_getElem (by omega)⟩
    rw [selD_at hd, selD_filter h (by omega), take_succ hd, List.filter_append, h k d hd]
    cases hq : q d <;> simp [hq]
end
theorem findI_in {l : List Nd} {d : Dig} (h : d ∈ idsL l) : findI (idsL l) d = ((ixN l d : Nat) : Int) := by rw [findI, if_pos h]; rfl
/-- Those marked, by place. -/
abbrev pB (S : List Bool) (i : Nat) : Bool := decide (S[i]? = some true)
theorem aboveR_eq {l : List Nd} (h : (readE l).2 = 0) {ids : List Dig} (hin : ∀ p ∈ ids, p ∈ idsL l) : srtD (selD (pB (markF l ids)) (idsL l) l.length) = aboveL l ids :=
  up_eq (srt_up _ _ List.Pairwise.nil) (above_up h) fun d => by
    rw [srtD, srt_mem, selD_mem, above_mem h hin]
    constructor
    · rintro (⟨i, hi, h1, h2⟩ | h1)
      · obtain ⟨n, hn⟩ : ∃ n, l[i]? = some n := ⟨_, List.getElem?_eq_getElem hi⟩
        rw [ids_at hn] at h1; cases h1
        refine (markF_bit h hin (mem_ids_at hn)).1 (bit_iff.2 ?_)
        rw [ixN_at h hn]; exact of_decide_eq_true h2
      · cases h1
    · intro hu
      have hd := under_ids h hin hu
      obtain ⟨n, hn, rfl⟩ := at_ixN hd
      exact .inl ⟨ixN l n.id, ixN_lt hd, ids_at hn, decide_eq_true (bit_iff.1 ((markF_bit h hin hd).2 hu))⟩
abbrev bothD (a b : List Dig) : List Dig := a.filter fun d => decide (d ∈ b)
/-! ## The reference's heads -/
def heB (l : List Nd) (all : List Dig) (k i : Nat) : Bool := !decide (i = k) && bitAt (markF l ((all.drop k).take 1)) l (all[i]?.getD Dig.zero)
def heS (l : List Nd) (all : List Dig) (k : Nat) (U : List Bool) : Nat → List Bool
  | 0 => U
  | j + 1 => (heS l all k U j).set j ((heS l all k U j)[j]?.getD false || heB l all k j)
def heU (l : List Nd) (all : List Dig) : Nat → List Bool
  | 0 => List.replicate all.length false
  | k + 1 => heS l all k (heU l all k) all.length
theorem heS_length {l : List Nd} {all : List Dig} {k : Nat} {U : List Bool} : ∀ {j : Nat}, (heS l all k U j).length = U.length
  | 0 => rfl
  | j + 1 => by rw [heS, List.length_set, heS_length]
theorem heU_length {l : List Nd} {all : List Dig} : ∀ {k : Nat}, (heU l all k).length = all.length
  | 0 => by simp [heU]
  | k + 1 => by rw [heU, heS_length, heU_length]
theorem heS_get {l : List Nd} {all : List Dig} {k : Nat} {U : List Bool} : ∀ {j : Nat}, j ≤ U.length → ∀ {i : Nat}, ((heS l all k U j)[i]? = some true ↔ U[i]? = some true ∨ (i < j ∧ heB l all k i = true))
  | 0, _, i => by simp [heS]
  | j + 1, hj, i => by
    rw [heS, List.getElem?_set]
    by_cases e : j = i
    · subst e
      have hlt : j < (heS l all k U j).length := by rw [heS_length]; omega
      have ih := heS_get (l := l) (all := all) (k := k) (U := U) (j := j) (by omega) (i := j)
      obtain ⟨c, hc⟩ : ∃ c, (heS l all k U j)[j]? = some c := ⟨_, List.getElem?_eq_getElem hlt⟩
      rw [hc] at ih
      rw [if_pos rfl, if_pos hlt, hc]
      simp only [Option.some.injEq, Option.getD_some, Bool.or_eq_true] at ih ⊢
      rw [ih]
      constructor
      · rintro ((h | ⟨h, _⟩) | h)
        · exact .inl h
        · omega
        · exact .inr ⟨by omega, h⟩
      · rintro (h | ⟨_, h⟩)
        · exact .inl (.inl h)
        · exact .inr h
    · rw [if_neg e, heS_get (by omega)]
      constructor
      · rintro (h | ⟨h1, h2⟩)
        · exact .inl h
        · exact .inr ⟨by omega, h2⟩
      · rintro (h | ⟨h1, h2⟩)
        · exact .inl h
        · exact .inr ⟨by omega, h2⟩
theorem heU_get {l : List Nd} {all : List Dig} : ∀ {k : Nat} {i : Nat}, i < all.length → ((heU l all k)[i]? = some true ↔ ∃ j, j < k ∧ heB l all j i = true)
  | 0, i, hi => by simp [heU, List.getElem?_replicate]
  | k + 1, i, hi => by
    rw [heU, heS_get (by rw [heU_length]; exact Nat.le_refl _), heU_get hi]
    constructor
    · rintro (⟨j, hj, h⟩ | ⟨_, h⟩)
      · exact ⟨j, by omega, h⟩
      · exact ⟨k, by omega, h⟩
    · rintro ⟨j, hj, h⟩
      by_cases e : j = k
      · subst e; exact .inr ⟨hi, h⟩
      · exact .inl ⟨j, by omega, h⟩
theorem drop_take1 {all : List Dig} {k : Nat} {d : Dig} (h : all[k]? = some d) : (all.drop k).take 1 = [d] := by
  obtain ⟨hlt, hd⟩ := List.getElem?_eq_some_iff.1 h
  rw [List.drop_eq_getElem_cons hlt, hd]; rfl
theorem heB_iff {l : List Nd} (h : (readE l).2 = 0) {all : List Dig} (hall : ∀ d ∈ all, d ∈ idsL l) {k i : Nat} {a d : Dig} (hk : all[k]? = some a) (hi : all[i]? = some d) : heB l all k i = true ↔ i ≠ k ∧ Ab l a d := by
  rw [heB, drop_take1 hk, hi, Option.getD_some, Bool.and_eq_true, markF_bit h (fun p hp => by simp at hp; subst hp; exact hall _ (List.mem_of_getElem? hk)) (hall d (List.mem_of_getElem? hi))]
  simp [Under]
def headsR (l : List Nd) (all : List Dig) : List Dig := selD (fun i => !pB (heU l all all.length) i) all all.length
theorem up_at {all : List Dig} (h : Up all) {i k : Nat} {d : Dig} (hi : all[i]? = some d) (hk : all[k]? = some d) : i = k := by
  have hn : all.Nodup := h.imp fun {a b} hab e => by subst e; rw [less_irrefl] at hab; cases hab
  have h1 := (List.getElem?_eq_some_iff.1 hi).1
  exact (List.getElem?_inj h1 hn).1 (hi.trans hk.symm)
theorem headsR_mem {l : List Nd} (h : (readE l).2 = 0) {all : List Dig} (hu : Up all) (hall : ∀ d ∈ all, d ∈ idsL l) {d : Dig} : d ∈ headsR l all ↔ IsHead l (· ∈ all) d := by
  rw [headsR, selD_mem]
  constructor
  · rintro ⟨i, hi, h1, h2⟩
    refine ⟨List.mem_of_getElem? h1, fun e he hab => ?_⟩
    obtain ⟨k, hk⟩ := List.mem_iff_getElem?.1 he
    have hkl := (List.getElem?_eq_some_iff.1 hk).1
    by_cases ek : i = k
    · subst ek; rw [hk] at h1; cases h1; rfl
    · exfalso
      simp only [Bool.not_eq_true', pB, decide_eq_false_iff_not] at h2
      exact h2 ((heU_get hi).2 ⟨k, hkl, (heB_iff h hall hk h1).2 ⟨ek, hab⟩⟩)
  · rintro ⟨h1, h2⟩
    obtain ⟨i, hi⟩ := List.mem_iff_getElem?.1 h1
    have hil := (List.getElem?_eq_some_iff.1 hi).1
    refine ⟨i, hil, hi, ?_⟩
    simp only [Bool.not_eq_true', pB, decide_eq_false_iff_not]
    intro hc
    obtain ⟨k, hkl, hb⟩ := (heU_get hil).1 hc
    obtain ⟨a, hk⟩ : ∃ a, all[k]? = some a := ⟨_, List.getElem?_eq_getElem hkl⟩
    obtain ⟨h3, h4⟩ := (heB_iff h hall hk hi).1 hb
    have e := h2 a (List.mem_of_getElem? hk) h4
    subst e
    exact h3 (up_at hu hi hk)
theorem headsR_eq {l : List Nd} (h : (readE l).2 = 0) {all : List Dig} (hu : Up all) (hall : ∀ d ∈ all, d ∈ idsL l) {In : List Bool} (hb : ∀ d ∈ idsL l, bitAt In l d = true ↔ d ∈ all) : headsR l all = headsL l In :=
  up_eq (selD_up hu) (heads_up h) fun d => by rw [headsR_mem h hu hall, heads_is h hall hb]
end Go.Pl
namespace Go.Proofs.Ytecolkngbcgmcaa
open Go.RowKit Go.Fw Go.Pl Go.Sort
theorem rFindIn_any (u : Value) (l : List NdV) (d : Dig) (w : World) (hl : Nds w u l) (hd : d ∈ idsL (ndsL l)) : Calls Try.prog 26 #[u, digV d] w (Ret fun v w' => v = .int .i64 ((ixN (ndsL l) d : Nat) : Int) ∧ Ext w w') := by
  have := rFind_any u l d w hl
  rwa [findI_in hd] at this

set_option maxHeartbeats 1000000 in
theorem rmarks_any (u v0 : Value) (l : List NdV) (ids : List Dig) (w : World) (hl : Nds w u l) (hok : (readE (ndsL l)).2 = 0) (hd : Sl w digC 32 v0 ids) (hin : ∀ d ∈ ids, d ∈ idsL (ndsL l)) : Calls Try.prog 38 #[u, v0] w (Ret fun v w' => ∃ b, v = .slice (some ⟨b, 0, none⟩) l.length l.length ∧ w.heap.size ≤ b ∧ Blk w' b TBo (boolC (markF (ndsL l) ids)) ∧ Ext w w') := by
  have hl0 := hl
  obtain ⟨A, c, rfl, hmc, hcm⟩ := hl.sl.lens
  unfold maxLen at hcm
  have hd0 := hd
  obtain ⟨A1, c1, rfl, hdc, hdx⟩ := hd.lens
  unfold maxLen at hdx
  have hnl : (ndsL l).length = l.length := by simp
  have hln := ok_len hok
  obtain ⟨bi, hbi, hbz, hbs, hbb⟩ := info_boolT
  refine calls_of_CW 62 [4] [(0, .slice A l.length c), (1, .slice A1 ids.length c1)] Try.func38 rfl rfl rfl (by simp) args2 ?_
  have hE : Ext w w := Chg.refl
  refine CW.seq fun K1 hK1 => ?_
  refine CW.region ?_   -- region 0
  refine WL.val (Y.assign rfl) (by decide) ?_   -- t4 := assign c(nilslice)
  refine WL.nil ?_
  refine hK1 _ _ ?_; try clear hK1 K1
  refine CW.seq fun K2 hK2 => ?_
  refine CW.region ?_   -- region 1
  refine WL.val (Y.move rfl) (by decide) ?_   -- t9 := move t0
  refine WL.val (Y.len_slice Try.underlying22 rfl) (by decide) ?_   -- t10 := call len(t9) : 22
  refine WL.st (St.makeB Try.underlying58 hbi hbz hbs hbb rfl rfl (by omega)) (by decide) fun v11 w1 hR1 => ?_   -- t11 := makeSlice 58 t10 t10
  obtain ⟨b, rfl, hb, hIn, hx1⟩ := hR1
  have hz1 := hx1.size
  have hE := hE.thenExt hx1
  have hltb := hIn.lt
  refine WL.val (Y.assign rfl) (by decide) ?_   -- t5 := assign t11
  refine WL.nil ?_
  refine hK2 _ _ ?_; try clear hK2 K2
  refine CW.seq fun K3 hK3 => ?_
  refine CW.seq fun K4 hK4 => ?_
  refine CW.region ?_   -- region 2
  refine WL.val (Y.assign rfl) (by decide) ?_   -- t6 := assign c(0:i64)
  refine WL.nil ?_
  refine hK4 _ _ ?_; try clear hK4 K4
  refine CW.block ?_   -- block 0
  refine CW.loop (X := Nat) (fun x => [(0, .slice A l.length c), (1, .slice A1 ids.length c1), (5, .slice (some ⟨b, 0, none⟩) l.length l.length), (6, .int .i64 (x : Int))]) (fun x w0 => x ≤ ids.length ∧ Blk w0 b TBo (boolC (setAll (ndsL l) (List.replicate l.length false) (ids.take x))) ∧ Ext w w0) (fun x => ids.length - x) 0 (by repeat (first | exact Fr.le.nil | refine Fr.le.cons rfl ?_)) ⟨Nat.zero_le _, by simpa [setAll] using hIn, hE⟩ ?_
  intro x w2 hl2
  clear hE hIn
  obtain ⟨hxl, hIn, hE⟩ := hl2
  refine CW.seq fun K5 hK5 => ?_
  refine CW.seq fun K6 hK6 => ?_
  refine CW.region ?_   -- region 3
  refine WL.val (Y.move rfl) (by decide) ?_   -- t12 := move t6
  refine WL.val (Y.move rfl) (by decide) ?_   -- t13 := move t1
  refine WL.val (Y.len_slice Try.underlying23 rfl) (by decide) ?_   -- t14 := call len(t13) : 23
  refine WL.val (Y.lss rfl rfl) (by decide) ?_   -- t15 := binOp lss 3 t12 t14 3
  refine WL.nil ?_
  refine hK6 _ _ ?_; try clear hK6 K6
  first | refine CW.condD rfl (fun ht7 => ?_) (fun ht7 => ?_) | refine CW.condND rfl (fun ht7 => ?_) (fun ht7 => ?_) | refine CW.condN rfl (fun ht7 => ?_) (fun ht7 => ?_) | refine CW.cond rfl (fun ht7 => ?_) (fun ht7 => ?_)
  · -- then
    refine CW.skip ?_
    refine hK5 _ _ ?_; try clear hK5 K5
    refine CW.seq fun K8 hK8 => ?_
    refine CW.block ?_   -- block 1
    obtain ⟨d, hdi⟩ : ∃ d, ids[x]? = some d := ⟨_, List.getElem?_eq_getElem (by omega)⟩
    obtain ⟨a1, rfl, hma⟩ := hd0.at hdi
    have hdin := hin d (List.mem_of_getElem? hdi)
    have hix := ixN_lt hdin
    obtain ⟨cb, hcb⟩ : ∃ cb, (setAll (ndsL l) (List.replicate l.length false) (ids.take x))[ixN (ndsL l) d]? = some cb := ⟨_, List.getElem?_eq_getElem (by rw [setAll_length, List.length_replicate]; omega)⟩
    refine CW.region ?_   -- region 5
    refine WL.val (Y.move rfl) (by decide) ?_   -- t18 := move t5
    refine WL.val (Y.move rfl) (by decide) ?_   -- t19 := move t0
    refine WL.val (Y.move rfl) (by decide) ?_   -- t20 := move t1
    refine WL.val (Y.move rfl) (by decide) ?_   -- t21 := move t6
    refine WL.val (Y.indexAddrN Try.underlying23 rfl rfl sz0_apiDigest (by omega)) (by decide) ?_   -- t22 := indexAddr 23 t20 t21
    refine WL.val (Y.load Try.underlying45 rfl (hma.ext hE) (sz_apiDigest _) rfl) (by decide) ?_   -- t23 := load 45 t22
    refine WL.call Try.func26 rfl rfl rfl (rFindIn_any _ l d _ (hl0.ext hE) hdin) (by simp) ?_; rintro v w3 ⟨rfl, hx3⟩; have hz3 := hx3.size; have hE := hE.thenExt hx3   -- t24 := call F26(t19, t23) : 22,45
    refine WL.val (Y.indexAddrN Try.underlying58 rfl rfl sz0_bool (by omega)) (by decide) ?_   -- t25 := indexAddr 58 t18 t24
    refine WL.storeB rfl rfl rfl sz_bool (hIn.ext hx3) hcb (fun w4 hc4 hB4_ => ?_)   -- _ := store 4 t25 c(true)
    have hz4 := hc4.size; have hE := hE.step hc4 (fun k h => by omega)
    skip
    refine WL.nil ?_
    refine hK8 _ _ ?_; try clear hK8 K8
    refine CW.region ?_   -- region 4
    refine WL.val (Y.move rfl) (by decide) ?_   -- t16 := move t6
    refine WL.val (Y.add rfl rfl ⟨by omega, by omega⟩) (by decide) ?_   -- t17 := binOp add 3 t16 c(1:i64) 3
    refine WL.val (Y.assign rfl) (by decide) ?_   -- t6 := assign t17
    refine WL.nil ?_
    refine ⟨x + 1, by show ids.length - (x + 1) < ids.length - x; omega, (by repeat (first | exact Fr.le.nil | refine Fr.le.cons rfl ?_)), by show x + 1 ≤ ids.length; omega, ?_, hE⟩
    show Blk _ _ _ (boolC (setAll _ _ (ids.take (x + 1))))
    rw [take_succ hdi, setAll_app]
    exact hB4_
  -- else
  refine CW.exit ?_   -- exit 0
  refine hK3 _ _ ?_; try clear hK3 K3
  refine CW.seq fun K9 hK9 => ?_
  refine CW.seq fun K10 hK10 => ?_
  refine CW.region ?_   -- region 6
  refine WL.val (Y.move rfl) (by decide) ?_   -- t26 := move t0
  refine WL.val (Y.len_slice Try.underlying22 rfl) (by decide) ?_   -- t27 := call len(t26) : 22
  refine WL.val (Y.sub rfl rfl ⟨by omega, by omega⟩) (by decide) ?_   -- t28 := binOp sub 3 t27 c(1:i64) 3
  refine WL.val (Y.assign rfl) (by decide) ?_   -- t7 := assign t28
  refine WL.nil ?_
  refine hK10 _ _ ?_; try clear hK10 K10
  refine CW.block ?_   -- block 2
  refine CW.loop (X := Nat × List Bool) (fun x => [(0, .slice A l.length c), (5, .slice (some ⟨b, 0, none⟩) l.length l.length), (7, .int .i64 ((x.1 : Int) - 1))]) (fun x w0 => x.1 ≤ l.length ∧ x.2.length = l.length ∧ Blk w0 b TBo (boolC x.2) ∧ markF (ndsL l) ids = markD (ndsL l) x.1 x.2 ∧ Ext w w0) (fun x => x.1) (l.length, mark0 (ndsL l) ids) (by repeat (first | exact Fr.le.nil | refine Fr.le.cons rfl ?_)) ⟨Nat.le_refl _, by rw [mark0_length, hnl], by rw [mark0, hnl]; rw [List.take_of_length_le (by omega)] at hIn; exact hIn, by rw [markF, hnl], hE⟩ ?_
  intro x w5 hl5
  clear hE hIn
  obtain ⟨k, S⟩ := x
  dsimp only at hl5 ⊢
  obtain ⟨hkl, hSl, hIn, hmk, hE⟩ := hl5
  refine CW.seq fun K11 hK11 => ?_
  refine CW.seq fun K12 hK12 => ?_
  refine CW.region ?_   -- region 7
  refine WL.val (Y.move rfl) (by decide) ?_   -- t29 := move t7
  refine WL.val (Y.geq rfl rfl) (by decide) ?_   -- t30 := binOp geq 3 t29 c(0:i64) 3
  refine WL.nil ?_
  refine hK12 _ _ ?_; try clear hK12 K12
  first | refine CW.condD rfl (fun ht13 => ?_) (fun ht13 => ?_) | refine CW.condND rfl (fun ht13 => ?_) (fun ht13 => ?_) | refine CW.condN rfl (fun ht13 => ?_) (fun ht13 => ?_) | refine CW.cond rfl (fun ht13 => ?_) (fun ht13 => ?_)
  · -- then
    refine CW.skip ?_
    refine hK11 _ _ ?_; try clear hK11 K11
    obtain ⟨i, rfl⟩ : ∃ i, k = i + 1 := ⟨k - 1, by omega⟩
    rw [show (((i + 1 : Nat) : Int) - 1) = (i : Int) by omega]
    obtain ⟨y, hy⟩ : ∃ y, l[i]? = some y := ⟨_, List.getElem?_eq_getElem (by omega)⟩
    obtain ⟨⟨id, ps⟩, Ay, cy⟩ := y
    have hyn : (ndsL l)[i]? = some ⟨id, ps⟩ := by simp [hy]
    obtain ⟨ci, hci⟩ : ∃ c, S[i]? = some c := ⟨_, List.getElem?_eq_getElem (by omega)⟩
    obtain ⟨a, rfl, hma⟩ := hl0.sl.at hy
    have hps0 := hl0.ps _ (List.mem_of_getElem? hy)
    dsimp only [NdV.pv] at hps0
    have hps1 := hps0
    obtain ⟨_, _, _, he_, _, hcy, hcy2, _⟩ := hps1
    cases he_
    unfold maxLen at hcy2
    refine CW.seq fun K14 hK14 => ?_
    refine CW.block ?_   -- block 3
    refine CW.seq fun K15 hK15 => ?_
    refine CW.region ?_   -- region 9
    refine WL.val (Y.assign rfl) (by decide) ?_   -- t8 := assign c(0:i64)
    refine WL.nil ?_
    refine hK15 _ _ ?_; try clear hK15 K15
    refine CW.block ?_   -- block 4
    refine CW.loop (X := Nat × List Bool) (fun x => [(0, .slice (some a) l.length c), (5, .slice (some ⟨b, 0, none⟩) l.length l.length), (7, .int .i64 (i : Int)), (8, .int .i64 (x.1 : Int))]) (fun x w0 => x.1 ≤ ps.length ∧ (0 < x.1 → S[i]? = some true) ∧ x.2 = setAll (ndsL l) S (ps.take x.1) ∧ x.2.length = l.length ∧ x.2[i]? = some ci ∧ Blk w0 b TBo (boolC x.2) ∧ Ext w w0) (fun x => ps.length - x.1) (0, S) (by repeat (first | exact Fr.le.nil | refine Fr.le.cons rfl ?_)) ⟨Nat.zero_le _, (fun h => absurd h (Nat.lt_irrefl 0)), by simp [setAll], hSl, hci, hIn, hE⟩ ?_
    intro x w6 hl6
    clear hE hIn
    obtain ⟨x, S2⟩ := x
    dsimp only at hl6 ⊢
    obtain ⟨hxl, hx0, hS2, hS2l, hS2i, hIn, hE⟩ := hl6
    refine CW.seq fun K16 hK16 => ?_
    refine CW.seq_test 46 (x < ps.length ∧ ci = true) ?_ ?_
    · refine CW.region ?_
      refine WL.val (Y.move rfl) (by decide) ?_   -- t33 := move t8
      refine WL.val (Y.move rfl) (by decide) ?_   -- t34 := move t0
      refine WL.val (Y.move rfl) (by decide) ?_   -- t35 := move t7
      refine WL.val (Y.indexAddrN Try.underlying22 rfl rfl sz0_apiNode (by omega)) (by decide) ?_   -- t36 := indexAddr 22 t34 t35
      refine WL.val (Y.fieldAddr fo_apiNode1 rfl) (by decide) ?_   -- t37 := fieldAddr 48 t36 1
      refine WL.val (Y.load1 Try.underlying23 rfl (hma.ext hE).node1 rfl) (by decide) ?_   -- t38 := load 23 t37
      refine WL.val (Y.len_slice Try.underlying23 rfl) (by decide) ?_   -- t39 := call len(t38) : 23
      refine WL.val (Y.lss rfl rfl) (by decide) ?_   -- t40 := binOp lss 3 t33 t39 3
      refine WL.val (Y.move rfl) (by decide) ?_   -- t41 := move t40
      first | refine WL.casesD (d := 41) rfl (fun hg41 => ?_) (fun hg41 => ?_) | refine WL.casesND (d := 41) rfl (fun hg41 => ?_) (fun hg41 => ?_) | refine WL.cases (d := 41) rfl (fun hg41 => ?_) (fun hg41 => ?_)
      · -- t41 = T
        refine WL.gval rfl rfl (Y.move rfl) (by decide) ?_   -- t42 := move t5 [if 8=true]
        refine WL.gval rfl rfl (Y.move rfl) (by decide) ?_   -- t43 := move t7 [if 8=true]
        refine WL.gval rfl rfl (Y.indexAddrN Try.underlying58 rfl rfl sz0_bool (by omega)) (by decide) ?_   -- t44 := indexAddr 58 t42 t43 [if 8=true]
        refine WL.gval rfl rfl (Y.load1 Try.underlying4 rfl (hIn.bcell hS2i) rfl) (by decide) ?_   -- t45 := load 4 t44 [if 8=true]
        refine WL.val (Y.pick rfl rfl) (by decide) ?_   -- t46 := pick t41 t45 c(false)
        refine WL.nil ⟨⟨_, rfl, ?_⟩, rfl, (by repeat (first | exact Fr.le.refl | refine Fr.le.push rfl ?_))⟩
        first | (simp only [*, Int.natCast_inj, Bool.not_eq_true', decide_eq_false_iff_not, decide_eq_true_eq, not_true_eq_false, not_false_eq_true, true_and, false_and, and_true, and_false, false_or, or_false, true_or, or_true, iff_true, true_iff, iff_false, false_iff]; done) | (simp_all; done) | (refine congrArg Value.bool (Bool.eq_iff_iff.2 ?_); simp_all; done) | (simp_all; omega)
      · -- t41 = F
        refine WL.goff rfl rfl (by decide) ?_   -- t42 := move t5 [if 8=true]
        refine WL.goff rfl rfl (by decide) ?_   -- t43 := move t7 [if 8=true]
        refine WL.goff rfl rfl (by decide) ?_   -- t44 := indexAddr 58 t42 t43 [if 8=true]
        refine WL.goff rfl rfl (by decide) ?_   -- t45 := load 4 t44 [if 8=true]
        refine WL.val (Y.pick rfl rfl) (by decide) ?_   -- t46 := pick t41 t45 c(false)
        refine WL.nil ⟨⟨_, rfl, ?_⟩, rfl, (by repeat (first | exact Fr.le.refl | refine Fr.le.push rfl ?_))⟩
        first | (simp only [*, Int.natCast_inj, Bool.not_eq_true', decide_eq_false_iff_not, decide_eq_true_eq, not_true_eq_false, not_false_eq_true, true_and, false_and, and_true, and_false, false_or, or_false, true_or, or_true, iff_true, true_iff, iff_false, false_iff]; done) | (simp_all; done) | (refine congrArg Value.bool (Bool.eq_iff_iff.2 ?_); simp_all; done) | (simp_all; omega)
    first | refine CW.condD rfl (fun ht17 => ?_) (fun ht17 => ?_) | refine CW.condND rfl (fun ht17 => ?_) (fun ht17 => ?_) | refine CW.condN rfl (fun ht17 => ?_) (fun ht17 => ?_) | refine CW.cond rfl (fun ht17 => ?_) (fun ht17 => ?_)
    · -- then
      refine CW.skip ?_
      refine hK16 _ _ ?_; try clear hK16 K16
      refine CW.seq fun K18 hK18 => ?_
      refine CW.block ?_   -- block 5
      obtain ⟨d, hd⟩ : ∃ d, ps[x]? = some d := ⟨_, List.getElem?_eq_getElem (by omega)⟩
      obtain ⟨a2, rfl, hma2⟩ := hps0.at hd
      have hdi := (ix_par hok hyn (List.mem_of_getElem? hd)).1
      have hix := ixN_lt hdi
      obtain ⟨cb2, hcb2⟩ : ∃ cb, S2[ixN (ndsL l) d]? = some cb := ⟨_, List.getElem?_eq_getElem (by omega)⟩
      refine CW.region ?_   -- region 12
      refine WL.val (Y.move rfl) (by decide) ?_   -- t49 := move t5
      refine WL.val (Y.move rfl) (by decide) ?_   -- t50 := move t0
      refine WL.val (Y.move rfl) (by decide) ?_   -- t51 := move t0
      refine WL.val (Y.move rfl) (by decide) ?_   -- t52 := move t7
      refine WL.val (Y.indexAddrN Try.underlying22 rfl rfl sz0_apiNode (by omega)) (by decide) ?_   -- t53 := indexAddr 22 t51 t52
      refine WL.val (Y.fieldAddr fo_apiNode1 rfl) (by decide) ?_   -- t54 := fieldAddr 48 t53 1
      refine WL.val (Y.load1 Try.underlying23 rfl (hma.ext hE).node1 rfl) (by decide) ?_   -- t55 := load 23 t54
      refine WL.val (Y.move rfl) (by decide) ?_   -- t56 := move t8
      refine WL.val (Y.indexAddrN Try.underlying23 rfl rfl sz0_apiDigest (by omega)) (by decide) ?_   -- t57 := indexAddr 23 t55 t56
      refine WL.val (Y.load Try.underlying45 rfl (hma2.ext hE) (sz_apiDigest _) rfl) (by decide) ?_   -- t58 := load 45 t57
      refine WL.call Try.func26 rfl rfl rfl (rFindIn_any _ l d _ (hl0.ext hE) hdi) (by simp) ?_; rintro v w7 ⟨rfl, hx7⟩; have hz7 := hx7.size; have hE := hE.thenExt hx7   -- t59 := call F26(t50, t58) : 22,45
      refine WL.val (Y.indexAddrN Try.underlying58 rfl rfl sz0_bool (by omega)) (by decide) ?_   -- t60 := indexAddr 58 t49 t59
      refine WL.storeB rfl rfl rfl sz_bool (hIn.ext hx7) hcb2 (fun w8 hc8 hB8_ => ?_)   -- _ := store 4 t60 c(true)
      have hz8 := hc8.size; have hE := hE.step hc8 (fun k h => by omega)
      skip
      refine WL.nil ?_
      refine hK18 _ _ ?_; try clear hK18 K18
      refine CW.region ?_   -- region 11
      refine WL.val (Y.move rfl) (by decide) ?_   -- t47 := move t8
      refine WL.val (Y.add rfl rfl ⟨by omega, by omega⟩) (by decide) ?_   -- t48 := binOp add 3 t47 c(1:i64) 3
      refine WL.val (Y.assign rfl) (by decide) ?_   -- t8 := assign t48
      refine WL.nil ?_
      refine ⟨(x + 1, S2.set (ixN (ndsL l) d) true), by show ps.length - (x + 1) < ps.length - x; omega, (by repeat (first | exact Fr.le.nil | refine Fr.le.cons rfl ?_)), by show x + 1 ≤ ps.length; omega, fun _ => ?_, ?_, by simp [hS2l], ?_, hB8_, hE⟩
      · rw [hci]; simp_all
      · show _ = setAll _ _ (ps.take (x + 1))
        rw [take_succ hd, setAll_app, hS2]
      · have hci2 : ci = true := by simp_all
        show (S2.set _ true)[i]? = _
        rw [List.getElem?_set]
        split
        · rw [if_pos (by omega), hci2]
        · exact hS2i
    -- else
    refine CW.exit ?_   -- exit 4
    refine hK14 _ _ ?_; try clear hK14 K14
    refine CW.region ?_   -- region 8
    refine WL.val (Y.move rfl) (by decide) ?_   -- t31 := move t7
    refine WL.val (Y.sub rfl rfl ⟨by omega, by omega⟩) (by decide) ?_   -- t32 := binOp sub 3 t31 c(1:i64) 3
    refine WL.val (Y.assign rfl) (by decide) ?_   -- t7 := assign t32
    refine WL.nil ?_
    have hupd : S2 = upd (ndsL l) S i := by
      by_cases hc : ci = true
      · have hxp : x = ps.length := by
          have : ¬ (x < ps.length ∧ ci = true) := by assumption
          simp only [hc, and_true] at this; omega
        subst hxp
        rw [hS2, List.take_length, upd_yes hyn (by rw [hci, hc])]
      · have hx00 : x = 0 := by
          rcases Nat.eq_zero_or_pos x with h | h
          · exact h
          · have := hx0 h; rw [hci] at this; simp_all
        subst hx00
        rw [upd_no (by rw [hci]; simp [hc]), hS2]; simp [setAll]
    exact ⟨(i, S2), by show i < i + 1; omega, (by repeat (first | exact Fr.le.nil | refine Fr.le.cons rfl ?_)), by show i ≤ l.length; omega, hS2l, hIn, by show _ = markD _ i S2; rw [hmk, markD, hupd], hE⟩
  -- else
  refine CW.exit ?_   -- exit 2
  refine hK9 _ _ ?_; try clear hK9 K9
  refine CW.seq fun K19 hK19 => ?_
  refine CW.region ?_   -- region 13
  refine WL.val (Y.move rfl) (by decide) ?_   -- t61 := move t5
  refine WL.val (Y.assign rfl) (by decide) ?_   -- t4 := assign t61
  refine WL.nil ?_
  refine hK19 _ _ ?_; try clear hK19 K19
  refine CW.ret ⟨_, rfl, ?_⟩
  refine ⟨b, rfl, hb, ?_, hE⟩
  have hk0 : k = 0 := by omega
  subst hk0
  rw [hmk]; exact hIn
set_option maxHeartbeats 1000000 in
theorem rAbove_any (u v0 : Value) (l : List NdV) (ids : List Dig) (w : World) (hl : Nds w u l) (hok : (readE (ndsL l)).2 = 0) (hd : Sl w digC 32 v0 ids) (hin : ∀ d ∈ ids, d ∈ idsL (ndsL l)) : Calls Try.prog 34 #[u, v0] w (Ret fun v w' => Own w' TDg 32 v (flatD (aboveL (ndsL l) ids)) ∧ (∀ k, v.ownBlock = some k → w.heap.size ≤ k) ∧ Ext w w') := by
  have hl0 := hl
  obtain ⟨A, c, rfl, hmc, hcm⟩ := hl.sl.lens
  unfold maxLen at hcm
  have hd0 := hd
  obtain ⟨A1, c1, rfl, hdc, hdx⟩ := hd.lens
  unfold maxLen at hdx
  have hnl : (ndsL l).length = l.length := by simp
  have hln := ok_len hok
  refine calls_of_CW 31 [4] [(0, .slice A l.length c), (1, .slice A1 ids.length c1)] Try.func34 rfl rfl rfl (by simp) args2 ?_
  have hE : Ext w w := Chg.refl
  refine CW.seq fun K1 hK1 => ?_
  refine CW.region ?_   -- region 0
  refine WL.val (Y.assign rfl) (by decide) ?_   -- t4 := assign c(nilslice)
  refine WL.nil ?_
  refine hK1 _ _ ?_; try clear hK1 K1
  refine CW.seq fun K2 hK2 => ?_
  refine CW.region ?_   -- region 1
  refine WL.val (Y.move rfl) (by decide) ?_   -- t8 := move t0
  refine WL.val (Y.move rfl) (by decide) ?_   -- t9 := move t1
  refine WL.call Try.func38 rfl rfl rfl (rmarks_any _ _ l ids _ hl0 hok hd0 hin) (by simp) ?_; rintro v10 w1 hR1   -- t10 := call F38(t8, t9) : 22,23
  obtain ⟨b, rfl, hb, hIn, hx1⟩ := hR1
  have hz1 := hx1.size
  have hE := hE.thenExt hx1
  have hltb := hIn.lt
  obtain ⟨S, hS⟩ : ∃ S, S = markF (ndsL l) ids := ⟨_, rfl⟩
  have hSl : S.length = l.length := by rw [hS, markF_length, hnl]
  rw [← hS] at hIn
  refine WL.val (Y.assign rfl) (by decide) ?_   -- t5 := assign t10
  refine WL.nil ?_
  refine hK2 _ _ ?_; try clear hK2 K2
  refine CW.seq fun K3 hK3 => ?_
  refine CW.region ?_   -- region 2
  refine WL.val (Y.assign rfl) (by decide) ?_   -- t6 := assign c(nilslice)
  refine WL.nil ?_
  refine hK3 _ _ ?_; try clear hK3 K3
  refine CW.seq fun K4 hK4 => ?_
  refine CW.seq fun K5 hK5 => ?_
  refine CW.region ?_   -- region 3
  refine WL.val (Y.assign rfl) (by decide) ?_   -- t7 := assign c(0:i64)
  refine WL.nil ?_
  refine hK5 _ _ ?_; try clear hK5 K5
  refine CW.block ?_   -- block 0
  refine CW.loop (X := Nat × Value) (fun x => [(0, .slice A l.length c), (5, .slice (some ⟨b, 0, none⟩) l.length l.length), (6, x.2), (7, .int .i64 (x.1 : Int))]) (fun x w0 => x.1 ≤ l.length ∧ Own w0 TDg 32 x.2 (flatD (selD (pB S) (idsL (ndsL l)) x.1)) ∧ ((∀ k, x.2.ownBlock = some k → w.heap.size ≤ k) ∧ (∀ k, x.2.ownBlock = some k → k ≠ b)) ∧ Blk w0 b TBo (boolC S) ∧ Ext w w0) (fun x => l.length - x.1) (0, .slice none 0 0) (by repeat (first | exact Fr.le.nil | refine Fr.le.cons rfl ?_)) ⟨Nat.zero_le _, Own.nil, ⟨(fun k h => by simp [Value.ownBlock] at h), (fun k h => by simp [Value.ownBlock] at h)⟩, hIn, hE⟩ ?_
  intro x w2 hl2
  clear hE hIn
  obtain ⟨i, v⟩ := x
  dsimp only at hl2 ⊢
  obtain ⟨hil, hO, ⟨hfu, hfv⟩, hIn, hE⟩ := hl2
  have hol := selD_len (p := pB S) (all := idsL (ndsL l)) (k := i)
  obtain ⟨B, mb, cb, rfl⟩ := hO.lens
  have hlo := hO.lt
  have hltb2 := hIn.lt
  have hzE := hE.size
  refine CW.seq fun K6 hK6 => ?_
  refine CW.seq fun K7 hK7 => ?_
  refine CW.region ?_   -- region 4
  refine WL.val (Y.move rfl) (by decide) ?_   -- t11 := move t7
  refine WL.val (Y.move rfl) (by decide) ?_   -- t12 := move t0
  refine WL.val (Y.len_slice Try.underlying22 rfl) (by decide) ?_   -- t13 := call len(t12) : 22
  refine WL.val (Y.lss rfl rfl) (by decide) ?_   -- t14 := binOp lss 3 t11 t13 3
  refine WL.nil ?_
  refine hK7 _ _ ?_; try clear hK7 K7
  first | refine CW.condD rfl (fun ht8 => ?_) (fun ht8 => ?_) | refine CW.condND rfl (fun ht8 => ?_) (fun ht8 => ?_) | refine CW.condN rfl (fun ht8 => ?_) (fun ht8 => ?_) | refine CW.cond rfl (fun ht8 => ?_) (fun ht8 => ?_)
  · -- then
    refine CW.skip ?_
    refine hK6 _ _ ?_; try clear hK6 K6
    obtain ⟨y, hy⟩ : ∃ y, l[i]? = some y := ⟨_, List.getElem?_eq_getElem (by omega)⟩
    obtain ⟨⟨id, ps⟩, Ay, cy⟩ := y
    have hyn : (ndsL l)[i]? = some ⟨id, ps⟩ := by simp [hy]
    have hsel := selD_at (p := pB S) (ids_at hyn)
    obtain ⟨ci, hci⟩ : ∃ c, S[i]? = some c := ⟨_, List.getElem?_eq_getElem (by omega)⟩
    obtain ⟨a, rfl, hma⟩ := hl0.sl.at hy
    refine CW.seq_to (X := Value) (fun u => [(0, .slice (some a) l.length c), (5, .slice (some ⟨b, 0, none⟩) l.length l.length), (6, u), (7, .int .i64 (i : Int))]) (fun u w0 => Own w0 TDg 32 u (flatD (selD (pB S) (idsL (ndsL l)) (i + 1))) ∧ ((∀ k, u.ownBlock = some k → w.heap.size ≤ k) ∧ (∀ k, u.ownBlock = some k → k ≠ b)) ∧ Blk w0 b TBo (boolC S) ∧ Ext w w0) ?_ ?_
    · skip
      refine CW.block ?_   -- block 1
      refine CW.seq fun K10 hK10 => ?_
      refine CW.region ?_   -- region 6
      refine WL.val (Y.move rfl) (by decide) ?_   -- t17 := move t5
      refine WL.val (Y.move rfl) (by decide) ?_   -- t18 := move t7
      refine WL.val (Y.indexAddrN Try.underlying58 rfl rfl sz0_bool (by omega)) (by decide) ?_   -- t19 := indexAddr 58 t17 t18
      refine WL.val (Y.load1 Try.underlying4 rfl (hIn.bcell hci) rfl) (by decide) ?_   -- t20 := load 4 t19
      refine WL.nil ?_
      refine hK10 _ _ ?_; try clear hK10 K10
      first | refine CW.condD rfl (fun ht11 => ?_) (fun ht11 => ?_) | refine CW.condND rfl (fun ht11 => ?_) (fun ht11 => ?_) | refine CW.condN rfl (fun ht11 => ?_) (fun ht11 => ?_) | refine CW.cond rfl (fun ht11 => ?_) (fun ht11 => ?_)
      · -- then
        refine CW.region ?_   -- region 7
        refine WL.val (Y.move rfl) (by decide) ?_   -- t21 := move t6
        refine WL.val (Y.move rfl) (by decide) ?_   -- t22 := move t0
        refine WL.val (Y.move rfl) (by decide) ?_   -- t23 := move t7
        refine WL.val (Y.indexAddrN Try.underlying22 rfl rfl sz0_apiNode (by omega)) (by decide) ?_   -- t24 := indexAddr 22 t22 t23
        refine WL.val (Y.fieldAddr fo_apiNode0 rfl) (by decide) ?_   -- t25 := fieldAddr 48 t24 0
        refine WL.val (Y.load Try.underlying45 rfl (hma.ext hE).node0 (sz_apiDigest _) rfl) (by decide) ?_   -- t26 := load 45 t25
        refine WL.st (St.buildSlice rfl (bs1_dig _)) (by decide) fun v27 w3 hR3 => ?_   -- t27 := buildSlice 23 1 [(0,t26)]
        obtain ⟨gg, rfl, hgg, hBg, hx3⟩ := hR3
        have hz3 := hx3.size
        have hE := hE.thenExt hx3
        have hIn := hIn.ext hx3
        refine WL.st (St.append Try.underlying23 Try.underlying23 ai_dig rfl rfl (hO.ext hx3) (Src.one hBg (digC_length _)) one_digC (by rw [flat_length digC_length]; omega)) (by decide) fun v28 w4 hR4 => ?_   -- t28 := call append(t21, t27) : 23,23
        obtain ⟨hO4, hc4, hf4⟩ := hR4
        have hR4x := hf4
        have hz4 := hc4.size
        have hE := hE.step hc4 (fun k h => by have := hfu k h; omega)
        have hf4 : ∀ k, v28.ownBlock = some k → w.heap.size ≤ k := by
          rcases hf4 with h | h
          · intro k hk; rw [h] at hk; exact hfu k hk
          · intro k hk; have := h k hk; omega
        have hIn := hIn.chg hc4 (fun h => by have := hfv _ h; omega)
        refine WL.val (Y.assign rfl) (by decide) ?_   -- t6 := assign t28
        refine WL.nil ?_
        exact ⟨v28, (by repeat (first | exact Fr.le.nil | refine Fr.le.cons rfl ?_)), by rw [hsel, if_pos (decide_eq_true (by rw [hci]; simp_all))]; simpa [flatD] using hO4, ⟨hf4, fun k hk => by rcases hR4x with h | h; rw [h] at hk; exact hfv k hk; have := h k hk; omega⟩, hIn, hE⟩
      -- else
      refine CW.skip ?_
      exact ⟨.slice B mb cb, (by repeat (first | exact Fr.le.nil | refine Fr.le.cons rfl ?_)), by rw [hsel, if_neg (by simp [pB, hci]; simp_all)]; exact hO, ⟨hfu, hfv⟩, hIn, hE⟩
    rintro u w5 hj5
    clear hE hIn hO hfu hfv
    obtain ⟨hO, hfu, hIn, hE⟩ := hj5
    refine CW.region ?_   -- region 5
    refine WL.val (Y.move rfl) (by decide) ?_   -- t15 := move t7
    refine WL.val (Y.add rfl rfl ⟨by omega, by omega⟩) (by decide) ?_   -- t16 := binOp add 3 t15 c(1:i64) 3
    refine WL.val (Y.assign rfl) (by decide) ?_   -- t7 := assign t16
    refine WL.nil ?_
    exact ⟨(i + 1, u), by show l.length - (i + 1) < l.length - i; omega, (by repeat (first | exact Fr.le.nil | refine Fr.le.cons rfl ?_)), by show i + 1 ≤ l.length; omega, hO, hfu, hIn, hE⟩
  -- else
  refine CW.exit ?_   -- exit 0
  refine hK4 _ _ ?_; try clear hK4 K4
  refine CW.seq fun K12 hK12 => ?_
  refine CW.region ?_   -- region 8
  refine WL.val (Y.move rfl) (by decide) ?_   -- t29 := move t6
  refine WL.call Try.func37 rfl rfl rfl (sorted_any _ _ _ (hO.sl digC_length (by decide)) (by omega)) (by simp) ?_; rintro v30 w6 hR6   -- t30 := call F37(t29) : 23
  obtain ⟨hO6, hf6, hx6⟩ := hR6
  have hz6 := hx6.size
  have hE := hE.thenExt hx6
  refine WL.val (Y.assign rfl) (by decide) ?_   -- t4 := assign t30
  refine WL.nil ?_
  refine hK12 _ _ ?_; try clear hK12 K12
  refine CW.ret ⟨_, rfl, ?_⟩
  have hil2 : i = l.length := by omega
  subst hil2
  rw [show l.length = (ndsL l).length by simp, hS, aboveR_eq hok hin] at hO6
  exact ⟨hO6, fun k hk => by have := hf6 k hk; omega, hE⟩
end Go.Proofs.Ytecolkngbcgmcaa
