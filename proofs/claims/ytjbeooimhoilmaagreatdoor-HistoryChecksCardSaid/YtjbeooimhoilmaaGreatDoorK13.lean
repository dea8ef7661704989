/- Parts of a proof: what its last text leans on. No condition. -/
import Derived.Test.YtjbeooimhoilmaaGreatDoorK07
import Derived.Test.YtjbeooimhoilmaaGreatDoorK12
set_option linter.unusedSimpArgs false
set_option linter.unusedVariables false
/- Several texts as one: Gy, Gz, Ha. -/
/- The reference's marks, Above, both, Heads, Common, Within, walked. No condition. -/
namespace Go.Pl
open Go.Fw
def selD (p : Nat → Bool) (all : List Dig) : Nat → List Dig
 | 0 => []
 | i + 1 => match all[i]? with
  | some d => if p i = true then selD p all i ++ [d] else selD p all i
  | none => selD p all i
section
variable {p : Nat → Bool} {all : List Dig}
theorem selD_at {i : Nat} {d : Dig} (h : all[i]? = some d) : selD p all (i + 1) = if p i = true then selD p all i ++ [d] else selD p all i := by rw [selD, h]
theorem selD_len : ∀ {k : Nat}, (selD p all k).length ≤ k
 | 0 => Nat.le_refl _
 | k + 1 => by
  have := selD_len (k := k)
  rw [selD]
  split
  ·
   split <;> (try rw [List.length_append, List.length_singleton]) <;> omega
  ·
   omega
theorem selD_mem {d : Dig} : ∀ {k : Nat}, d ∈ selD p all k ↔ ∃ i, i < k ∧ all[i]? = some d ∧ p i = true
 | 0 => by simp [selD]
 | k + 1 => by
  have ih := selD_mem (d := d) (k := k)
  have hs : (∃ i, i < k + 1 ∧ all[i]? = some d ∧ p i = true) ↔ (∃ i, i < k ∧ all[i]? = some d ∧ p i = true) ∨ (all[k]? = some d ∧ p k = true) := by
   constructor
   ·
    rintro ⟨i, hi, h1, h2⟩
    by_cases e : i = k
    ·
     subst e; exact .inr ⟨h1, h2⟩
    ·
     exact .inl ⟨i, by omega, h1, h2⟩
   ·
    rintro (⟨i, hi, h1, h2⟩ | ⟨h1, h2⟩)
    ·
     exact ⟨i, by omega, h1, h2⟩
    ·
     exact ⟨k, by omega, h1, h2⟩
  rw [hs, selD]
  cases hk : all[k]? with
  | none => simpa using ih
  | some x =>
   simp only
   by_cases hp : p k = true
   ·
    rw [if_pos hp, List.mem_append, ih, List.mem_singleton]
    exact or_congr Iff.rfl ⟨fun e => ⟨by rw [e], hp⟩, fun e => (Option.some.inj e.1).symm⟩
   ·
    rw [if_neg hp, ih]
    simp [hp]
end
theorem findI_in {l : List Nd} {d : Dig} (h : d ∈ idsL l) : findI (idsL l) d = ((ixN l d : Nat) : Int) := by rw [findI, if_pos h]; rfl
abbrev pB (S : List Bool) (i : Nat) : Bool := decide (S[i]? = some true)
theorem aboveR_eq {l : List Nd} (h : (readE l).2 = 0) {ids : List Dig} (hin : ∀ p ∈ ids, p ∈ idsL l) : srtD (selD (pB (markF l ids)) (idsL l) l.length) = aboveL l ids :=
 up_eq (srt_up _ _ List.Pairwise.nil) (above_up h) fun d => by
  rw [srtD, srt_mem, selD_mem, above_mem h hin]
  constructor
  ·
   rintro (⟨i, hi, h1, h2⟩ | h1)
   ·
    obtain ⟨n, hn⟩ : ∃ n, l[i]? = some n := ⟨_, List.getElem?_eq_getElem hi⟩
    rw [ids_at hn] at h1; cases h1
    refine (markF_bit h hin (mem_ids_at hn)).1 (bit_iff.2 ?_)
    rw [ixN_at h hn]; exact of_decide_eq_true h2
   ·
    cases h1
  ·
   intro hu
   have hd := under_ids h hin hu
   obtain ⟨n, hn, rfl⟩ := at_ixN hd
   exact .inl ⟨ixN l n.id, ixN_lt hd, ids_at hn, decide_eq_true (bit_iff.1 ((markF_bit h hin hd).2 hu))⟩
end Go.Pl
namespace Go.Proofs.YtjbeooimhoilmaaGreatDoor
open Go.RowKit Go.Fw Go.Pl Go.Sort
theorem rFindIn_any (u : Value) (l : List NdV) (d : Dig) (w : World) (hl : Nds w u l) (hd : d ∈ idsL (ndsL l)) : Calls Tryz.prog 41 #[u, digV d] w (Ret fun v w' => v = .int .i64 ((ixN (ndsL l) d : Nat) : Int) ∧ Ext w w') := by
 have := rFind_any u l d w hl
 rwa [findI_in hd] at this
set_option maxHeartbeats 1000000 in
theorem rmarks_any (u v0 : Value) (l : List NdV) (ids : List Dig) (w : World) (hl : Nds w u l) (hok : (readE (ndsL l)).2 = 0) (hd : Sl w digC 32 v0 ids) (hin : ∀ d ∈ ids, d ∈ idsL (ndsL l)) : Calls Tryz.prog 43 #[u, v0] w (Ret fun v w' => ∃ b, v = .slice (some ⟨b, 0, none⟩) l.length l.length ∧ w.heap.size ≤ b ∧ Blk w' b TBo (boolC (markF (ndsL l) ids)) ∧ Ext w w') := by
 have hl0 := hl
 obtain ⟨A, c, rfl, hmc, hcm⟩ := hl.sl.lens
 unfold maxLen at hcm
 have hd0 := hd
 obtain ⟨A1, c1, rfl, hdc, hdx⟩ := hd.lens
 unfold maxLen at hdx
 have hnl : (ndsL l).length = l.length := by simp
 have hln := ok_len hok
 obtain ⟨bi, hbi, hbz, hbs, hbb⟩ := info_boolT
 refine calls_of_CW 62 [4] [(0, .slice A l.length c), (1, .slice A1 ids.length c1)] Tryz.func43 rfl rfl rfl (by simp) args2 ?_
 have hE : Ext w w := Chg.refl
 refine CW.sr fun K1 hK1 => ?_
 refine WL.a rfl ?_
 refine WL.nil (hK1 _ _ ?_); try clear hK1 K1
 refine CW.sr fun K2 hK2 => ?_
 refine WL.m rfl ?_
 refine WL.v (Y.len_slice Tryz.underlying37 rfl) ?_
 refine WL.st (St.makeB Tryz.underlying81 hbi hbz hbs hbb rfl rfl (by omega)) (by decide) fun v11 w1 hR1 => ?_
 obtain ⟨b, rfl, hb, hIn, hx1⟩ := hR1
 have hz1 := hx1.size
 have hE := hE.thenExt hx1
 have hltb := hIn.lt
 refine WL.a rfl ?_
 refine WL.nil (hK2 _ _ ?_); try clear hK2 K2
 refine CW.seq fun K3 hK3 => ?_
 refine CW.sr fun K4 hK4 => ?_
 refine WL.a rfl ?_
 refine WL.nil (hK4 _ _ ?_); try clear hK4 K4
 refine CW.block ?_
 refine CW.loop (X := Nat) (fun x => [(0, .slice A l.length c), (1, .slice A1 ids.length c1), (5, .slice (some ⟨b, 0, none⟩) l.length l.length), (6, .int .i64 (x : Int))]) (fun x w0 => x ≤ ids.length ∧ Blk w0 b TBo (boolC (setAll (ndsL l) (List.replicate l.length false) (ids.take x))) ∧ Ext w w0) (fun x => ids.length - x) 0 Fr.ok ⟨Nat.zero_le _, by simpa [setAll] using hIn, hE⟩ ?_
 intro x w2 hl2
 clear hE hIn
 obtain ⟨hxl, hIn, hE⟩ := hl2
 refine CW.seq fun K5 hK5 => ?_
 refine CW.sr fun K6 hK6 => ?_
 refine WL.m rfl ?_
 refine WL.m rfl ?_
 refine WL.v (Y.len_slice Tryz.underlying24 rfl) ?_
 refine WL.v (Y.lss rfl rfl) ?_
 refine WL.nil (hK6 _ _ ?_); try clear hK6 K6
 (first | refine CW.condD rfl ?_ ?_ | refine CW.condND rfl ?_ ?_ | refine CW.condN rfl ?_ ?_ | refine CW.cond rfl ?_ ?_) <;> intro ht7
 ·
  -- then
  refine CW.skip ?_
  refine hK5 _ _ ?_; try clear hK5 K5
  refine CW.seq fun K8 hK8 => ?_
  refine CW.block ?_
  obtain ⟨d, hdi⟩ : ∃ d, ids[x]? = some d := ⟨_, List.getElem?_eq_getElem (by omega)⟩
  obtain ⟨a1, rfl, hma⟩ := hd0.at hdi
  have hdin := hin d (List.mem_of_getElem? hdi)
  have hix := ixN_lt hdin
  obtain ⟨cb, hcb⟩ : ∃ cb, (setAll (ndsL l) (List.replicate l.length false) (ids.take x))[ixN (ndsL l) d]? = some cb := ⟨_, List.getElem?_eq_getElem (by rw [setAll_length, List.length_replicate]; omega)⟩
  refine CW.region ?_
  refine WL.m rfl ?_
  refine WL.m rfl ?_
  refine WL.m rfl ?_
  refine WL.m rfl ?_
  refine WL.v (Y.indexAddrN Tryz.underlying24 rfl rfl sz0_apiDigest (by omega)) ?_
  refine WL.v (Y.load Tryz.underlying43 rfl (hma.ext hE) (sz_apiDigest _) rfl) ?_
  refine WL.call Tryz.func41 rfl rfl rfl (rFindIn_any _ l d _ (hl0.ext hE) hdin) (by simp) ?_; rintro v w3 ⟨rfl, hx3⟩; have hz3 := hx3.size; have hE := hE.thenExt hx3
  refine WL.v (Y.indexAddrN Tryz.underlying81 rfl rfl sz0_bool (by omega)) ?_
  refine WL.storeB rfl rfl rfl sz_bool (hIn.ext hx3) hcb (fun w4 hc4 hB4_ => ?_)
  have hz4 := hc4.size; have hE := hE.step hc4 (fun k h => by omega)
  skip
  refine WL.nil (hK8 _ _ ?_); try clear hK8 K8
  refine CW.region ?_
  refine WL.m rfl ?_
  refine WL.v (Y.add rfl rfl ⟨by omega, by omega⟩) ?_
  refine WL.a rfl ?_
  refine WL.nil ?_
  refine ⟨x + 1, by show ids.length - (x + 1) < ids.length - x; omega, Fr.ok, by show x + 1 ≤ ids.length; omega, ?_, hE⟩
  show Blk _ _ _ (boolC (setAll _ _ (ids.take (x + 1))))
  rw [take_succ hdi, setAll_app]
  exact hB4_
 refine CW.exit ?_
 refine hK3 _ _ ?_; try clear hK3 K3
 refine CW.seq fun K9 hK9 => ?_
 refine CW.sr fun K10 hK10 => ?_
 refine WL.m rfl ?_
 refine WL.v (Y.len_slice Tryz.underlying37 rfl) ?_
 refine WL.v (Y.sub rfl rfl ⟨by omega, by omega⟩) ?_
 refine WL.a rfl ?_
 refine WL.nil (hK10 _ _ ?_); try clear hK10 K10
 refine CW.block ?_
 refine CW.loop (X := Nat × List Bool) (fun x => [(0, .slice A l.length c), (5, .slice (some ⟨b, 0, none⟩) l.length l.length), (7, .int .i64 ((x.1 : Int) - 1))]) (fun x w0 => x.1 ≤ l.length ∧ x.2.length = l.length ∧ Blk w0 b TBo (boolC x.2) ∧ markF (ndsL l) ids = markD (ndsL l) x.1 x.2 ∧ Ext w w0) (fun x => x.1) (l.length, mark0 (ndsL l) ids) Fr.ok ⟨Nat.le_refl _, by rw [mark0_length, hnl], by rw [mark0, hnl]; rw [List.take_of_length_le (by omega)] at hIn; exact hIn, by rw [markF, hnl], hE⟩ ?_
 intro x w5 hl5
 clear hE hIn
 obtain ⟨k, S⟩ := x
 dsimp only at hl5 ⊢
 obtain ⟨hkl, hSl, hIn, hmk, hE⟩ := hl5
 refine CW.seq fun K11 hK11 => ?_
 refine CW.sr fun K12 hK12 => ?_
 refine WL.m rfl ?_
 refine WL.v (Y.geq rfl rfl) ?_
 refine WL.nil (hK12 _ _ ?_); try clear hK12 K12
 (first | refine CW.condD rfl ?_ ?_ | refine CW.condND rfl ?_ ?_ | refine CW.condN rfl ?_ ?_ | refine CW.cond rfl ?_ ?_) <;> intro ht13
 ·
  -- then
  refine CW.skip ?_
  refine hK11 _ _ ?_; try clear hK11 K11
  obtain ⟨i, rfl⟩ : ∃ i, k = i + 1 := ⟨k - 1, by omega⟩
  rw [show (((i + 1 : Nat) : Int) - 1) = (i : Int) by omega]
  obtain ⟨y, hy⟩ : ∃ y, l[i]? = some y := ⟨_, List.getElem?_eq_getElem (by omega)⟩
  obtain ⟨⟨id, ps⟩, Ay, cy⟩ := y
  have hyn : (ndsL l)[i]? = some ⟨id, ps⟩ := by simp [hy]
  obtain ⟨ci, hci⟩ : ∃ c, S[i]? = some c := ⟨_, List.getElem?_eq_getElem (by omega)⟩
  obtain ⟨a, rfl, hma⟩ := hl0.sl.at hy
  have hps0 := hl0.ps _ (List.mem_of_getElem? hy)
  dsimp only [NdV.pv] at hps0
  have hps1 := hps0
  obtain ⟨_, _, _, he_, _, hcy, hcy2, _⟩ := hps1
  cases he_
  unfold maxLen at hcy2
  refine CW.seq fun K14 hK14 => ?_
  refine CW.block ?_
  refine CW.sr fun K15 hK15 => ?_
  refine WL.a rfl ?_
  refine WL.nil (hK15 _ _ ?_); try clear hK15 K15
  refine CW.block ?_
  refine CW.loop (X := Nat × List Bool) (fun x => [(0, .slice (some a) l.length c), (5, .slice (some ⟨b, 0, none⟩) l.length l.length), (7, .int .i64 (i : Int)), (8, .int .i64 (x.1 : Int))]) (fun x w0 => x.1 ≤ ps.length ∧ (0 < x.1 → S[i]? = some true) ∧ x.2 = setAll (ndsL l) S (ps.take x.1) ∧ x.2.length = l.length ∧ x.2[i]? = some ci ∧ Blk w0 b TBo (boolC x.2) ∧ Ext w w0) (fun x => ps.length - x.1) (0, S) Fr.ok ⟨Nat.zero_le _, (fun h => absurd h (Nat.lt_irrefl 0)), by simp [setAll], hSl, hci, hIn, hE⟩ ?_
  intro x w6 hl6
  clear hE hIn
  obtain ⟨x, S2⟩ := x
  dsimp only at hl6 ⊢
  obtain ⟨hxl, hx0, hS2, hS2l, hS2i, hIn, hE⟩ := hl6
  refine CW.seq fun K16 hK16 => ?_
  refine CW.seq_test 46 (x < ps.length ∧ ci = true) ?_ ?_
  ·
   refine CW.region ?_
   refine WL.m rfl ?_
   refine WL.m rfl ?_
   refine WL.m rfl ?_
   refine WL.v (Y.indexAddrN Tryz.underlying37 rfl rfl sz0_apiNode (by omega)) ?_
   refine WL.v (Y.fieldAddr fo_apiNode1 rfl) ?_
   refine WL.v (Y.load1 Tryz.underlying24 rfl (hma.ext hE).node1 rfl) ?_
   refine WL.v (Y.len_slice Tryz.underlying24 rfl) ?_
   refine WL.v (Y.lss rfl rfl) ?_
   refine WL.m rfl ?_
   (first | refine WL.casesD (d := 41) rfl ?_ ?_ | refine WL.casesND (d := 41) rfl ?_ ?_ | refine WL.cases (d := 41) rfl ?_ ?_) <;> intro hg41
   ·
    -- t41 = T
    refine WL.g rfl rfl (Y.move rfl) ?_
    refine WL.g rfl rfl (Y.move rfl) ?_
    refine WL.g rfl rfl (Y.indexAddrN Tryz.underlying81 rfl rfl sz0_bool (by omega)) ?_
    refine WL.g rfl rfl (Y.load1 Tryz.underlying4 rfl (hIn.bcell hS2i) rfl) ?_
    refine WL.v (Y.pick rfl rfl) ?_
    refine WL.nil ⟨⟨_, rfl, ?_⟩, rfl, Fr.okp⟩
    exact tst_ok
   ·
    -- t41 = F
    refine WL.o rfl rfl ?_
    refine WL.o rfl rfl ?_
    refine WL.o rfl rfl ?_
    refine WL.o rfl rfl ?_
    refine WL.v (Y.pick rfl rfl) ?_
    refine WL.nil ⟨⟨_, rfl, ?_⟩, rfl, Fr.okp⟩
    exact tst_ok
  (first | refine CW.condD rfl ?_ ?_ | refine CW.condND rfl ?_ ?_ | refine CW.condN rfl ?_ ?_ | refine CW.cond rfl ?_ ?_) <;> intro ht17
  ·
   -- then
   refine CW.skip ?_
   refine hK16 _ _ ?_; try clear hK16 K16
   refine CW.seq fun K18 hK18 => ?_
   refine CW.block ?_
   obtain ⟨d, hd⟩ : ∃ d, ps[x]? = some d := ⟨_, List.getElem?_eq_getElem (by omega)⟩
   obtain ⟨a2, rfl, hma2⟩ := hps0.at hd
   have hdi := (ix_par hok hyn (List.mem_of_getElem? hd)).1
   have hix := ixN_lt hdi
   obtain ⟨cb2, hcb2⟩ : ∃ cb, S2[ixN (ndsL l) d]? = some cb := ⟨_, List.getElem?_eq_getElem (by omega)⟩
   refine CW.region ?_
   refine WL.m rfl ?_
   refine WL.m rfl ?_
   refine WL.m rfl ?_
   refine WL.m rfl ?_
   refine WL.v (Y.indexAddrN Tryz.underlying37 rfl rfl sz0_apiNode (by omega)) ?_
   refine WL.v (Y.fieldAddr fo_apiNode1 rfl) ?_
   refine WL.v (Y.load1 Tryz.underlying24 rfl (hma.ext hE).node1 rfl) ?_
   refine WL.m rfl ?_
   refine WL.v (Y.indexAddrN Tryz.underlying24 rfl rfl sz0_apiDigest (by omega)) ?_
   refine WL.v (Y.load Tryz.underlying43 rfl (hma2.ext hE) (sz_apiDigest _) rfl) ?_
   refine WL.call Tryz.func41 rfl rfl rfl (rFindIn_any _ l d _ (hl0.ext hE) hdi) (by simp) ?_; rintro v w7 ⟨rfl, hx7⟩; have hz7 := hx7.size; have hE := hE.thenExt hx7
   refine WL.v (Y.indexAddrN Tryz.underlying81 rfl rfl sz0_bool (by omega)) ?_
   refine WL.storeB rfl rfl rfl sz_bool (hIn.ext hx7) hcb2 (fun w8 hc8 hB8_ => ?_)
   have hz8 := hc8.size; have hE := hE.step hc8 (fun k h => by omega)
   skip
   refine WL.nil (hK18 _ _ ?_); try clear hK18 K18
   refine CW.region ?_
   refine WL.m rfl ?_
   refine WL.v (Y.add rfl rfl ⟨by omega, by omega⟩) ?_
   refine WL.a rfl ?_
   refine WL.nil ?_
   refine ⟨(x + 1, S2.set (ixN (ndsL l) d) true), by show ps.length - (x + 1) < ps.length - x; omega, Fr.ok, by show x + 1 ≤ ps.length; omega, fun _ => ?_, ?_, by simp [hS2l], ?_, hB8_, hE⟩
   ·
    rw [hci]; simp_all
   ·
    show _ = setAll _ _ (ps.take (x + 1))
    rw [take_succ hd, setAll_app, hS2]
   ·
    have hci2 : ci = true := by simp_all
    show (S2.set _ true)[i]? = _
    rw [List.getElem?_set]
    split
    ·
     rw [if_pos (by omega), hci2]
    ·
     exact hS2i
  refine CW.exit ?_
  refine hK14 _ _ ?_; try clear hK14 K14
  refine CW.region ?_
  refine WL.m rfl ?_
  refine WL.v (Y.sub rfl rfl ⟨by omega, by omega⟩) ?_
  refine WL.a rfl ?_
  refine WL.nil ?_
  have hupd : S2 = upd (ndsL l) S i := by
   by_cases hc : ci = true
   ·
    have hxp : x = ps.length := by
     have : ¬ (x < ps.length ∧ ci = true) := by assumption
     simp only [hc, and_true] at this; omega
    subst hxp
    rw [hS2, List.take_length, upd_yes hyn (by rw [hci, hc])]
   ·
    have hx00 : x = 0 := by
     rcases Nat.eq_zero_or_pos x with h | h
     ·
      exact h
     ·
      have := hx0 h; rw [hci] at this; simp_all
    subst hx00
    rw [upd_no (by rw [hci]; simp [hc]), hS2]; simp [setAll]
  exact ⟨(i, S2), by show i < i + 1; omega, Fr.ok, by show i ≤ l.length; omega, hS2l, hIn, by show _ = markD _ i S2; rw [hmk, markD, hupd], hE⟩
 refine CW.exit ?_
 refine hK9 _ _ ?_; try clear hK9 K9
 refine CW.sr fun K19 hK19 => ?_
 refine WL.m rfl ?_
 refine WL.a rfl ?_
 refine WL.nil (hK19 _ _ ?_); try clear hK19 K19
 refine CW.ret ⟨_, rfl, ?_⟩
 refine ⟨b, rfl, hb, ?_, hE⟩
 have hk0 : k = 0 := by omega
 subst hk0
 rw [hmk]; exact hIn
set_option maxHeartbeats 1000000 in
theorem rAbove_any (u v0 : Value) (l : List NdV) (ids : List Dig) (w : World) (hl : Nds w u l) (hok : (readE (ndsL l)).2 = 0) (hd : Sl w digC 32 v0 ids) (hin : ∀ d ∈ ids, d ∈ idsL (ndsL l)) : Calls Tryz.prog 31 #[u, v0] w (Ret fun v w' => Own w' TDg 32 v (flatD (aboveL (ndsL l) ids)) ∧ (∀ k, v.ownBlock = some k → w.heap.size ≤ k) ∧ Ext w w') := by
 have hl0 := hl
 obtain ⟨A, c, rfl, hmc, hcm⟩ := hl.sl.lens
 unfold maxLen at hcm
 have hd0 := hd
 obtain ⟨A1, c1, rfl, hdc, hdx⟩ := hd.lens
 unfold maxLen at hdx
 have hnl : (ndsL l).length = l.length := by simp
 have hln := ok_len hok
 refine calls_of_CW 31 [4] [(0, .slice A l.length c), (1, .slice A1 ids.length c1)] Tryz.func31 rfl rfl rfl (by simp) args2 ?_
 have hE : Ext w w := Chg.refl
 refine CW.sr fun K1 hK1 => ?_
 refine WL.a rfl ?_
 refine WL.nil (hK1 _ _ ?_); try clear hK1 K1
 refine CW.sr fun K2 hK2 => ?_
 refine WL.m rfl ?_
 refine WL.m rfl ?_
 refine WL.call Tryz.func43 rfl rfl rfl (rmarks_any _ _ l ids _ hl0 hok hd0 hin) (by simp) ?_; rintro v10 w1 hR1
 obtain ⟨b, rfl, hb, hIn, hx1⟩ := hR1
 have hz1 := hx1.size
 have hE := hE.thenExt hx1
 have hltb := hIn.lt
 obtain ⟨S, hS⟩ : ∃ S, S = markF (ndsL l) ids := ⟨_, rfl⟩
 have hSl : S.length = l.length := by rw [hS, markF_length, hnl]
 rw [← hS] at hIn
 refine WL.a rfl ?_
 refine WL.nil (hK2 _ _ ?_); try clear hK2 K2
 refine CW.sr fun K3 hK3 => ?_
 refine WL.a rfl ?_
 refine WL.nil (hK3 _ _ ?_); try clear hK3 K3
 refine CW.seq fun K4 hK4 => ?_
 refine CW.sr fun K5 hK5 => ?_
 refine WL.a rfl ?_
 refine WL.nil (hK5 _ _ ?_); try clear hK5 K5
 refine CW.block ?_
 refine CW.loop (X := Nat × Value) (fun x => [(0, .slice A l.length c), (5, .slice (some ⟨b, 0, none⟩) l.length l.length), (6, x.2), (7, .int .i64 (x.1 : Int))]) (fun x w0 => x.1 ≤ l.length ∧ Own w0 TDg 32 x.2 (flatD (selD (pB S) (idsL (ndsL l)) x.1)) ∧ ((∀ k, x.2.ownBlock = some k → w.heap.size ≤ k) ∧ (∀ k, x.2.ownBlock = some k → k ≠ b)) ∧ Blk w0 b TBo (boolC S) ∧ Ext w w0) (fun x => l.length - x.1) (0, .slice none 0 0) Fr.ok ⟨Nat.zero_le _, Own.nil, ⟨(fun k h => by simp [Value.ownBlock] at h), (fun k h => by simp [Value.ownBlock] at h)⟩, hIn, hE⟩ ?_
 intro x w2 hl2
 clear hE hIn
 obtain ⟨i, v⟩ := x
 dsimp only at hl2 ⊢
 obtain ⟨hil, hO, ⟨hfu, hfv⟩, hIn, hE⟩ := hl2
 have hol := selD_len (p := pB S) (all := idsL (ndsL l)) (k := i)
 obtain ⟨B, mb, cb, rfl⟩ := hO.lens
 have hlo := hO.lt
 have hltb2 := hIn.lt
 have hzE := hE.size
 refine CW.seq fun K6 hK6 => ?_
 refine CW.sr fun K7 hK7 => ?_
 refine WL.m rfl ?_
 refine WL.m rfl ?_
 refine WL.v (Y.len_slice Tryz.underlying37 rfl) ?_
 refine WL.v (Y.lss rfl rfl) ?_
 refine WL.nil (hK7 _ _ ?_); try clear hK7 K7
 (first | refine CW.condD rfl ?_ ?_ | refine CW.condND rfl ?_ ?_ | refine CW.condN rfl ?_ ?_ | refine CW.cond rfl ?_ ?_) <;> intro ht8
 ·
  -- then
  refine CW.skip ?_
  refine hK6 _ _ ?_; try clear hK6 K6
  obtain ⟨y, hy⟩ : ∃ y, l[i]? = some y := ⟨_, List.getElem?_eq_getElem (by omega)⟩
  obtain ⟨⟨id, ps⟩, Ay, cy⟩ := y
  have hyn : (ndsL l)[i]? = some ⟨id, ps⟩ := by simp [hy]
  have hsel := selD_at (p := pB S) (ids_at hyn)
  obtain ⟨ci, hci⟩ : ∃ c, S[i]? = some c := ⟨_, List.getElem?_eq_getElem (by omega)⟩
  obtain ⟨a, rfl, hma⟩ := hl0.sl.at hy
  refine CW.seq_to (X := Value) (fun u => [(0, .slice (some a) l.length c), (5, .slice (some ⟨b, 0, none⟩) l.length l.length), (6, u), (7, .int .i64 (i : Int))]) (fun u w0 => Own w0 TDg 32 u (flatD (selD (pB S) (idsL (ndsL l)) (i + 1))) ∧ ((∀ k, u.ownBlock = some k → w.heap.size ≤ k) ∧ (∀ k, u.ownBlock = some k → k ≠ b)) ∧ Blk w0 b TBo (boolC S) ∧ Ext w w0) ?_ ?_
  ·
   skip
   refine CW.block ?_
   refine CW.sr fun K10 hK10 => ?_
   refine WL.m rfl ?_
   refine WL.m rfl ?_
   refine WL.v (Y.indexAddrN Tryz.underlying81 rfl rfl sz0_bool (by omega)) ?_
   refine WL.v (Y.load1 Tryz.underlying4 rfl (hIn.bcell hci) rfl) ?_
   refine WL.nil (hK10 _ _ ?_); try clear hK10 K10
   (first | refine CW.condD rfl ?_ ?_ | refine CW.condND rfl ?_ ?_ | refine CW.condN rfl ?_ ?_ | refine CW.cond rfl ?_ ?_) <;> intro ht11
   ·
    -- then
    refine CW.region ?_
    refine WL.m rfl ?_
    refine WL.m rfl ?_
    refine WL.m rfl ?_
    refine WL.v (Y.indexAddrN Tryz.underlying37 rfl rfl sz0_apiNode (by omega)) ?_
    refine WL.v (Y.fieldAddr fo_apiNode0 rfl) ?_
    refine WL.v (Y.load Tryz.underlying43 rfl (hma.ext hE).node0 (sz_apiDigest _) rfl) ?_
    refine WL.st (St.buildSlice rfl (bs1_dig _)) (by decide) fun v27 w3 hR3 => ?_
    obtain ⟨gg, rfl, hgg, hBg, hx3⟩ := hR3
    have hz3 := hx3.size
    have hE := hE.thenExt hx3
    have hIn := hIn.ext hx3
    refine WL.st (St.append Tryz.underlying24 Tryz.underlying24 ai_dig rfl rfl (hO.ext hx3) (Src.one hBg (digC_length _)) one_digC (by rw [flat_length digC_length]; omega)) (by decide) fun v28 w4 hR4 => ?_
    obtain ⟨hO4, hc4, hf4⟩ := hR4
    have hR4x := hf4
    have hz4 := hc4.size
    have hE := hE.step hc4 (fun k h => by have := hfu k h; omega)
    have hf4 : ∀ k, v28.ownBlock = some k → w.heap.size ≤ k := by
     rcases hf4 with h | h
     ·
      intro k hk; rw [h] at hk; exact hfu k hk
     ·
      intro k hk; have := h k hk; omega
    have hIn := hIn.chg hc4 (fun h => by have := hfv _ h; omega)
    refine WL.a rfl ?_
    refine WL.nil ?_
    exact ⟨v28, Fr.ok, by rw [hsel, if_pos (decide_eq_true (by rw [hci]; simp_all))]; simpa [flatD] using hO4, ⟨hf4, fun k hk => by rcases hR4x with h | h; rw [h] at hk; exact hfv k hk; have := h k hk; omega⟩, hIn, hE⟩
   refine CW.skip ?_
   exact ⟨.slice B mb cb, Fr.ok, by rw [hsel, if_neg (by simp [pB, hci]; simp_all)]; exact hO, ⟨hfu, hfv⟩, hIn, hE⟩
  rintro u w5 hj5
  clear hE hIn hO hfu hfv
  obtain ⟨hO, hfu, hIn, hE⟩ := hj5
  refine CW.region ?_
  refine WL.m rfl ?_
  refine WL.v (Y.add rfl rfl ⟨by omega, by omega⟩) ?_
  refine WL.a rfl ?_
  refine WL.nil ?_
  exact ⟨(i + 1, u), by show l.length - (i + 1) < l.length - i; omega, Fr.ok, by show i + 1 ≤ l.length; omega, hO, hfu, hIn, hE⟩
 refine CW.exit ?_
 refine hK4 _ _ ?_; try clear hK4 K4
 refine CW.sr fun K12 hK12 => ?_
 refine WL.m rfl ?_
 refine WL.call Tryz.func42 rfl rfl rfl (sorted_any _ _ _ (hO.sl digC_length (by decide)) (by omega)) (by simp) ?_; rintro v30 w6 hR6
 obtain ⟨hO6, hf6, hx6⟩ := hR6
 have hz6 := hx6.size
 have hE := hE.thenExt hx6
 refine WL.a rfl ?_
 refine WL.nil (hK12 _ _ ?_); try clear hK12 K12
 refine CW.ret ⟨_, rfl, ?_⟩
 have hil2 : i = l.length := by omega
 subst hil2
 rw [show l.length = (ndsL l).length by simp, hS, aboveR_eq hok hin] at hO6
 exact ⟨hO6, fun k hk => by have := hf6 k hk; omega, hE⟩
end Go.Proofs.YtjbeooimhoilmaaGreatDoor
/- The reference's In, both, Heads, Common, Within, walked. No condition. -/
namespace Go.Fw
open Go.RowKit
end Go.Fw
namespace Go.Proofs.YtjbeooimhoilmaaGreatDoor
open Go.RowKit Go.Fw Go.Pl Go.Sort
theorem rIn_any (u : Value) (l : List Dig) (d : Dig) (w : World) (hd : Sl w digC 32 u l) : Calls Tryz.prog 33 #[u, digV d] w (Ret fun v w' => v = .bool (decide (d ∈ l)) ∧ Ext w w') := by
 have hd0 := hd
 obtain ⟨A1, c1, rfl, hdc, hdx⟩ := hd.lens
 unfold maxLen at hdx
 
 refine calls_of_CW 18 [4] [(0, .slice A1 l.length c1), (1, digV d)] Tryz.func33 rfl rfl rfl (by simp) args2 ?_
 have hE : Ext w w := Chg.refl
 refine CW.sr fun K1 hK1 => ?_
 refine WL.box rfl rfl (by decide) fun g3 w1 hx1 hg3 hB3 => ?_
 have hlt3 := hB3.lt; have hz1 := hx1.size
 have hM3 := hB3.mem; have hz1 := hx1.size; have hE := hE.thenExt hx1
 refine WL.a rfl ?_
 refine WL.nil (hK1 _ _ ?_); try clear hK1 K1
 refine CW.seq fun K2 hK2 => ?_
 refine CW.sr fun K3 hK3 => ?_
 refine WL.a rfl ?_
 refine WL.nil (hK3 _ _ ?_); try clear hK3 K3
 refine CW.block ?_
 refine CW.loop (X := Nat) (fun x => [(0, .slice A1 l.length c1), (3, .pointer (some ⟨g3, 0, none⟩)), (5, .int .i64 (x : Int))]) (fun x w0 => x ≤ l.length ∧ (∀ y, y ∈ l.take x → y ≠ d) ∧ Blk w0 g3 TDg (digC d) ∧ Ext w w0) (fun x => l.length - x) 0 Fr.ok ⟨Nat.zero_le _, (fun y hy => by simp at hy), hB3, hE⟩ ?_
 intro x w2 hl2
 clear hE hB3
 obtain ⟨hxl, hno, hB3, hE⟩ := hl2
 refine CW.seq fun K4 hK4 => ?_
 refine CW.sr fun K5 hK5 => ?_
 refine WL.m rfl ?_
 refine WL.m rfl ?_
 refine WL.v (Y.len_slice Tryz.underlying24 rfl) ?_
 refine WL.v (Y.lss rfl rfl) ?_
 refine WL.nil (hK5 _ _ ?_); try clear hK5 K5
 (first | refine CW.condD rfl ?_ ?_ | refine CW.condND rfl ?_ ?_ | refine CW.condN rfl ?_ ?_ | refine CW.cond rfl ?_ ?_) <;> intro ht6
 ·
  -- then
  refine CW.skip ?_
  refine hK4 _ _ ?_; try clear hK4 K4
  refine CW.seq fun K7 hK7 => ?_
  refine CW.block ?_
  refine CW.seq fun K8 hK8 => ?_
  obtain ⟨y, hy⟩ : ∃ y, l[x]? = some y := ⟨_, List.getElem?_eq_getElem (by omega)⟩
  obtain ⟨a, rfl, hma⟩ := hd0.at hy
  refine CW.quiet (fun wq => Ext w2 wq) (by kernel_rfl) (by kernel_rfl) Chg.drew ?_
  refine QL.m rfl ?_
  refine QL.m rfl ?_
  refine QL.v (fun wq hq => Y.indexAddrN Tryz.underlying24 rfl rfl sz0_apiDigest (by omega)) ?_
  refine QL.v (fun wq hq => Y.load Tryz.underlying43 rfl (hma.ext (hE.thenExt hq)) (sz_apiDigest _) rfl) ?_
  refine QL.v (fun wq hq => Y.load Tryz.underlying43 rfl (hB3.ext hq).mem (sz_apiDigest _) rfl) ?_
  refine QL.v (fun wq hq => Y.eql_apiDigest rfl rfl) ?_
  refine QL.nil fun w3 hx3 => ?_
  have hz3 := hx3.size
  have hE := hE.thenExt hx3
  have hB3 := hB3.ext hx3
  refine hK8 _ _ ?_; try clear hK8 K8
  (first | refine CW.condD rfl ?_ ?_ | refine CW.condND rfl ?_ ?_ | refine CW.condN rfl ?_ ?_ | refine CW.cond rfl ?_ ?_) <;> intro ht9
  ·
   -- then
   refine CW.sr fun K10 hK10 => ?_
   refine WL.a rfl ?_
   refine WL.nil (hK10 _ _ ?_); try clear hK10 K10
   refine CW.ret ⟨_, rfl, ?_⟩
   have hyd : y = d := by assumption
   exact ⟨by rw [decide_eq_true (hyd ▸ List.mem_of_getElem? hy)], hE⟩
  refine CW.skip ?_
  refine hK7 _ _ ?_; try clear hK7 K7
  refine CW.region ?_
  refine WL.m rfl ?_
  refine WL.v (Y.add rfl rfl ⟨by omega, by omega⟩) ?_
  refine WL.a rfl ?_
  refine WL.nil ?_
  refine ⟨x + 1, by show l.length - (x + 1) < l.length - x; omega, Fr.ok, by show x + 1 ≤ l.length; omega, ?_, hB3, hE⟩
  intro z hz
  rw [take_succ hy] at hz
  rcases List.mem_append.1 hz with hz | hz
  ·
   exact hno z hz
  ·
   simp at hz; subst hz; assumption
 refine CW.exit ?_
 refine hK2 _ _ ?_; try clear hK2 K2
 refine CW.sr fun K11 hK11 => ?_
 refine WL.a rfl ?_
 refine WL.nil (hK11 _ _ ?_); try clear hK11 K11
 refine CW.ret ⟨_, rfl, ?_⟩
 refine ⟨?_, hE⟩
 rw [List.take_of_length_le (by omega)] at hno
 rw [decide_eq_false fun h => hno d h rfl]
end Go.Proofs.YtjbeooimhoilmaaGreatDoor
/- The reference's Common, Within, Order, Lacks; the law's two, walked. No condition. -/
namespace Go.Pl
open Go.Fw
end Go.Pl
namespace Go.Proofs.YtjbeooimhoilmaaGreatDoor
open Go.RowKit Go.Fw Go.Pl Go.Sort
end Go.Proofs.YtjbeooimhoilmaaGreatDoor
/- What must come: of four nodes, two of them side by side: alive, walked. No condition. -/
namespace Go.Fw
open Go.RowKit
section
variable {P : Program} {n : NN} {fr : Fr} {w : World} {ty : TypeId}
end
theorem Blk.own {w : World} {g : Nat} {e : TypeId} {k n : Nat} {cs : List Value} (h : Blk w g e cs) (hl : cs.length = n * k) (hn : n ≤ maxLen) : Own w e k (.slice (some ⟨g, 0, none⟩) n n) cs :=
 .inr ⟨g, n, n, [], (0, 0), rfl, by rw [List.append_nil]; exact h, hl, Nat.le_refl _, hn, by rw [List.append_nil]; exact hl, fun o _ => by simp⟩
end Go.Fw
namespace Go.Pl
open Go.Fw
end Go.Pl
namespace Go.Proofs.YtjbeooimhoilmaaGreatDoor
open Go.RowKit Go.Fw Go.Pl Go.Sort
end Go.Proofs.YtjbeooimhoilmaaGreatDoor
/- The plain laws of graphs: lattice, order of lying within, meets. No condition; no program. -/
namespace Go.Pl
open Go.Fw
variable {l : List Nd}
abbrev hdL (l : List Nd) (ids : List Dig) : List Dig := headsL l (mark0 l ids)
section
variable (h : (readE l).2 = 0)
include h
end
end Go.Pl
/- The plain laws of graphs: a list that grows, or is laid in another order. No condition; no program. -/
namespace Go.Pl
open Go.Fw
theorem fwrong_all : ∀ {l : List Nd} {a : List Dig} {i : Nat}, (∀ j n, l[j]? = some n → wrongE (a ++ idsL (l.take j)) n = 0) → (fwrong l a i).2 = 0
 | [], _, _, _ => rfl
 | x :: r, a, i, h => by
  have h0 : wrongE a x = 0 := by simpa using h 0 x rfl
  rw [fwrong, if_pos h0]
  exact fwrong_all fun j n hj => by
   have := h (j + 1) n (by simpa using hj)
   simpa [idsL] using this
theorem readE_all {l : List Nd} (hl : l.length ≤ 200) (h : ∀ j n, l[j]? = some n → wrongE (idsL (l.take j)) n = 0) : (readE l).2 = 0 := by
 rw [readE, if_neg (by omega)]
 exact fwrong_all fun j n hj => by simpa using h j n hj
theorem wrongE_zero {ahead : List Dig} {n : Nd} (h1 : n.ps.length ≤ 8) (h2 : risB n.ps = true) (h3 : n.id ∉ ahead) (h4 : ∀ p ∈ n.ps, p ∈ ahead) : wrongE ahead n = 0 := by
 rw [wrongE, if_neg (by omega), if_neg (by rw [h2]; decide), if_neg h3, if_neg]
 rintro ⟨p, hp, hn⟩
 exact hn (h4 p hp)
structure Grow (l m : List Nd) : Prop where
 okl : (readE l).2 = 0
 okm : (readE m).2 = 0
 sub : ∀ d ∈ idsL l, d ∈ idsL m
 par : ∀ d ∈ idsL l, parD m d = parD l d
section
variable {l m : List Nd} (g : Grow l m)
include g
theorem Grow.up {a d : Dig} (h : Ab l a d) : a ∈ idsL l → Ab m a d := by
 induction h with
 | refl d => exact fun _ => .refl _
 | @step n p d hn hp _ ih =>
  intro ha
  have hpi : p ∈ idsL l := by
   obtain ⟨j, hj⟩ := List.mem_iff_getElem?.1 hn
   exact (ix_par g.okl hj hp).1
  obtain ⟨n', hn', e⟩ := List.mem_map.1 (g.sub _ ha)
  have e2 : n'.ps = n.ps := by rw [← parD_mem g.okm hn', e, g.par _ ha, parD_mem g.okl hn]
  rw [← e]
  exact .step hn' (by rw [e2]; exact hp) (ih hpi)
theorem Grow.down {a d : Dig} (h : Ab m a d) : a ∈ idsL l → Ab l a d := by
 induction h with
 | refl d => exact fun _ => .refl _
 | @step n p d hn hp _ ih =>
  intro ha
  obtain ⟨n', hn', e⟩ := List.mem_map.1 ha
  have e2 : n'.ps = n.ps := by rw [← parD_mem g.okl hn', e, ← g.par _ ha, parD_mem g.okm hn]
  have hp' : p ∈ n'.ps := by rw [e2]; exact hp
  have hpi : p ∈ idsL l := by
   obtain ⟨j, hj⟩ := List.mem_iff_getElem?.1 hn'
   exact (ix_par g.okl hj hp').1
  rw [← e]
  exact .step hn' hp' (ih hpi)
theorem Grow.ab {a d : Dig} (ha : a ∈ idsL l) : Ab m a d ↔ Ab l a d := ⟨fun h => g.down h ha, fun h => g.up h ha⟩
theorem Grow.under {ids : List Dig} (hin : ∀ d ∈ ids, d ∈ idsL l) {d : Dig} : Under m ids d ↔ Under l ids d := by
 constructor
 ·
  rintro ⟨a, ha, h⟩; exact ⟨a, ha, (g.ab (hin a ha)).1 h⟩
 ·
  rintro ⟨a, ha, h⟩; exact ⟨a, ha, (g.ab (hin a ha)).2 h⟩
theorem Grow.head {X Y : Dig → Prop} (hX : ∀ d, X d → d ∈ idsL l) (hXY : ∀ d, X d ↔ Y d) {d : Dig} : IsHead m X d ↔ IsHead l Y d := by
 constructor
 ·
  rintro ⟨h1, h2⟩
  exact ⟨(hXY d).1 h1, fun e he hed => h2 e ((hXY e).2 he) (g.up hed (hX e ((hXY e).2 he)))⟩
 ·
  rintro ⟨h1, h2⟩
  exact ⟨(hXY d).2 h1, fun e he hed => h2 e ((hXY e).1 he) (g.down hed (hX e he))⟩
theorem Grow.may {out : List Dig} {d : Dig} (hd : d ∈ idsL l) : mayQ m out d = mayQ l out d := by rw [mayQ, mayQ, g.par d hd]
end
section
variable {l m : List Nd} (g : Grow l m)
include g
end
theorem more_grow {l : List Nd} {n : Nd} (h : (readE (l ++ [n])).2 = 0) : Grow l (l ++ [n]) := by
 have hl := ok_len h
 rw [List.length_append, List.length_singleton] at hl
 have okl : (readE l).2 = 0 := readE_all (by omega) fun j x hj => by
  have hlt := (List.getElem?_eq_some_iff.1 hj).1
  have := ok_at h (i := j) (n := x) (by rw [List.getElem?_append_left hlt]; exact hj)
  rwa [List.take_append_of_le_length (by omega)] at this
 refine ⟨okl, h, fun d hd => ?_, fun d hd => ?_⟩
 ·
  obtain ⟨x, hx, e⟩ := List.mem_map.1 hd
  exact e ▸ List.mem_map.2 ⟨x, List.mem_append_left _ hx, rfl⟩
 ·
  obtain ⟨x, hx, e⟩ := List.mem_map.1 hd
  rw [← e, parD_mem h (List.mem_append_left _ hx), parD_mem okl hx]
end Go.Pl
