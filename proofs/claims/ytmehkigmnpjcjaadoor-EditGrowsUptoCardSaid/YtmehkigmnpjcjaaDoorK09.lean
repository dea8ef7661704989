/- Parts of a proof: what its last text leans on. No condition. -/
import Derived.Laws.MakeOwn
import Derived.Test.YtmehkigmnpjcjaaDoorK06
import Derived.Test.YtmehkigmnpjcjaaDoorK08
set_option linter.unusedSimpArgs false
set_option linter.unusedVariables false
/- The list of nodes read: order, wrong, read, Check, walked. No condition. -/
namespace Go.Proofs.YtmehkigmnpjcjaaDoor
open Go.RowKit Go.Fw Go.Pl Go.Sort
def cfO (a b : Dig) : Int := if lessB a b = true then -1 else if a = b then 0 else 1
theorem lt_cfO (a b : Dig) : ltOf cfO a b = lessB a b := by
 unfold ltOf cfO
 cases lessB a b <;> simp
 split <;> simp
theorem gorder_any (a b : Dig) (w : World) : Calls Tryd.prog 71 #[digV a, digV b] w (Ret fun v w' => v = .int .i64 (cfO a b) ∧ Ext w w') := by
 refine calls_of_CW 13 [4] [(0, digV a), (1, digV b)] Tryd.func71 rfl rfl rfl (by simp) args2 ?_
 have hE : Ext w w := Chg.refl
 refine CW.sr fun K1 hK1 => ?_
 refine WL.box rfl rfl de_ fun g2 w1 hx1 hg2 hB2 => ?_
 have hlt2 := hB2.lt; have hz1 := hx1.size
 have hM2 := hB2.mem; have hz1 := hx1.size; have hE := hE.thenExt hx1
 refine WL.box rfl rfl de_ fun g3 w2 hx2 hg3 hB3 => ?_
 have hlt3 := hB3.lt; have hz2 := hx2.size
 have hM3 := hB3.mem; have hz2 := hx2.size; have hE := hE.thenExt hx2; have hB2 := hB2.ext hx2
 refine WL.a rfl ?_
 refine WL.nil (hK1 _ _ ?_); try clear hK1
 refine CW.seq fun K2 hK2 => ?_
 refine CW.block ?_
 refine CW.sr fun K3 hK3 => ?_
 refine WL.v (Y.load Tryd.underlying36 rfl hB2.mem (sz_apiDigest _) rfl) ?_
 refine WL.v (Y.load Tryd.underlying36 rfl hB3.mem (sz_apiDigest _) rfl) ?_
 refine WL.call Tryd.func58 rfl rfl rfl (less_any _ _ _) (by simp) ?_; rintro v w3 ⟨rfl, hx3⟩; have hz3 := hx3.size; have hE := hE.thenExt hx3; have hB2 := hB2.ext hx3; have hB3 := hB3.ext hx3
 refine WL.a rfl ?_
 refine WL.nil (hK3 _ _ ?_); try clear hK3
 (first | refine cd_ rfl ?_ ?_ | refine ce_ rfl ?_ ?_ | refine cn_ rfl ?_ ?_ | refine cb_ rfl ?_ ?_) <;> intro ht4
 ·
  -- then
  refine CW.sr fun K5 hK5 => ?_
  refine WL.a rfl ?_
  refine WL.nil (hK5 _ _ ?_); try clear hK5
  refine CW.ret ⟨_, rfl, ?_⟩
  exact ⟨by rw [cfO, if_pos (by assumption)], hE⟩
 refine CW.sr fun K6 hK6 => ?_
 refine WL.v (Y.load Tryd.underlying36 rfl hB2.mem (sz_apiDigest _) rfl) ?_
 refine WL.v (Y.load Tryd.underlying36 rfl hB3.mem (sz_apiDigest _) rfl) ?_
 refine WL.v (Y.eql_apiDigest rfl rfl) ?_
 refine WL.a rfl ?_
 refine WL.nil (hK6 _ _ ?_); try clear hK6
 (first | refine cd_ rfl ?_ ?_ | refine ce_ rfl ?_ ?_ | refine cn_ rfl ?_ ?_ | refine cb_ rfl ?_ ?_) <;> intro ht7
 ·
  -- then
  refine CW.sr fun K8 hK8 => ?_
  refine WL.a rfl ?_
  refine WL.nil (hK8 _ _ ?_); try clear hK8
  refine CW.ret ⟨_, rfl, ?_⟩
  exact ⟨by rw [cfO, if_neg (by simp_all), if_pos (by assumption)], hE⟩
 refine CW.skip ?_
 refine hK2 _ _ ?_; try clear hK2
 refine CW.sr fun K9 hK9 => ?_
 refine WL.a rfl ?_
 refine WL.nil (hK9 _ _ ?_); try clear hK9
 refine CW.ret ⟨_, rfl, ?_⟩
 exact ⟨by rw [cfO, if_neg (by simp_all), if_neg (by assumption)], hE⟩
theorem gwrong_any (y : NdV) (ids : List Dig) (r cl : Nat) (w : World) (hx : Sl w digC 32 y.pv y.n.ps) (hM : MapAt w r pme (placed ids) cl) : Calls Tryd.prog 77 #[ndV y, .map (some r)] w (Ret fun v w' => v = .int .i64 (wrongE ids y.n) ∧ Ext w w') := by
 have hx0 := hx
 have hM0 := hM
 obtain ⟨⟨id, ps⟩, A, c⟩ := y
 obtain ⟨_, _, _, he, hl, hmc, hcm, _⟩ := hx
 cases he
 have hx := hx0
 unfold maxLen at hcm
 dsimp only [NdV.pv] at hx hx0 hl hmc ⊢
 refine calls_of_CW 64 [4] [(0, ndV ⟨⟨id, ps⟩, A, c⟩), (1, .map (some r))] Tryd.func77 rfl rfl rfl (by simp) args2 ?_
 have hE : Ext w w := Chg.refl
 refine CW.sr fun K1 hK1 => ?_
 refine WL.box rfl rfl de_ fun g2 w1 hx1 hg2 hB2 => ?_
 have hlt2 := hB2.lt; have hz1 := hx1.size
 have hM2 := hB2.mem; have hz1 := hx1.size; have hE := hE.thenExt hx1; have hx := hx.ext hx1; have hM := hM.ext hx1
 refine WL.a rfl ?_
 refine WL.nil (hK1 _ _ ?_); try clear hK1
 refine CW.seq fun K2 hK2 => ?_
 refine CW.sr fun K3 hK3 => ?_
 refine WL.v (Y.fieldAddr fo_apiNode1 rfl) ?_
 refine WL.v (Y.load1 Tryd.underlying25 rfl hB2.mem.node1 rfl) ?_
 refine WL.v (Y.len_slice Tryd.underlying25 rfl) ?_
 refine WL.v (Y.gtr rfl rfl) ?_
 refine WL.nil (hK3 _ _ ?_); try clear hK3
 (first | refine cd_ rfl ?_ ?_ | refine ce_ rfl ?_ ?_ | refine cn_ rfl ?_ ?_ | refine cb_ rfl ?_ ?_) <;> intro ht4
 ·
  -- then
  refine CW.sr fun K5 hK5 => ?_
  refine WL.a rfl ?_
  refine WL.nil (hK5 _ _ ?_); try clear hK5
  refine CW.ret ⟨_, rfl, ?_⟩
  exact ⟨by rw [wrongE, if_pos (by show 8 < ps.length; omega)], hE⟩
 refine CW.skip ?_
 refine hK2 _ _ ?_; try clear hK2
 refine CW.seq fun K6 hK6 => ?_
 refine CW.sr fun K7 hK7 => ?_
 refine WL.v (Y.fieldAddr fo_apiNode1 rfl) ?_
 refine WL.v (Y.load1 Tryd.underlying25 rfl hB2.mem.node1 rfl) ?_
 refine WL.v (Y.len_slice Tryd.underlying25 rfl) ?_
 refine WL.m rfl ?_
 refine WL.nil (hK7 _ _ ?_); try clear hK7
 refine CW.block ?_
 refine CW.loop (X := Nat) (fun x => [(1, .map (some r)), (2, .pointer (some ⟨g2, 0, none⟩)), (18, .int .i64 (ps.length : Int)), (19, .int .i64 (x : Int))]) (fun x w0 => x ≤ ps.length ∧ (∀ i a b, i + 1 < x → ps[i]? = some a → ps[i + 1]? = some b → lessB a b = true) ∧ Ext w w0 ∧ Blk w0 g2 TNo (ndC ⟨⟨id, ps⟩, A, c⟩)) (fun x => ps.length - x) 0 Fr.ok ⟨Nat.zero_le _, (fun i a b h => by omega), hE, hB2⟩ ?_
 intro x w2 hl2
 obtain ⟨hxl, hris, hE, hB2⟩ := hl2
 have hx := hx0.ext hE
 have hM := hM0.ext hE
 refine CW.sr fun K8 hK8 => ?_
 refine WL.v (Y.lss rfl rfl) ?_
 refine WL.nil (hK8 _ _ ?_); try clear hK8
 refine CW.seq fun K9 hK9 => ?_
 (first | refine cd_ rfl ?_ ?_ | refine ce_ rfl ?_ ?_ | refine cn_ rfl ?_ ?_ | refine cb_ rfl ?_ ?_) <;> intro ht10
 ·
  -- then
  refine CW.skip ?_
  refine hK9 _ _ ?_; try clear hK9
  refine CW.seq fun K11 hK11 => ?_
  refine CW.block ?_
  refine CW.sr fun K12 hK12 => ?_
  refine WL.m rfl ?_
  refine WL.a rfl ?_
  refine WL.nil (hK12 _ _ ?_); try clear hK12
  obtain ⟨p, hp⟩ : ∃ p, ps[x]? = some p := ⟨_, List.getElem?_eq_getElem om_⟩
  obtain ⟨q, hq0⟩ : ∃ q, 0 < x → ps[x - 1]? = some q := by
   by_cases h : 0 < x
   ·
    exact ⟨ps[x - 1]'om_, fun _ => List.getElem?_eq_getElem om_⟩
   ·
    exact ⟨p, fun h2 => absurd h2 h⟩
  obtain ⟨a, rfl, hma⟩ := hx.at hp
  have hmq : 0 < x → Mem w2 (a.add ((x - 1) * 32)) (digC q) := fun h => by
   obtain ⟨a2, ha2, hm2⟩ := hx.at (hq0 h)
   cases ha2; exact hm2
  refine CW.seq_testE 38 (0 < x ∧ lessB q p = false) ?_ ?_
  ·
   refine CW.quiet (fun wq => Ext w2 wq) kr_ kr_ Chg.drew ?_
   refine QL.m rfl ?_
   refine QL.v (fun wq hq => Y.gtr rfl rfl) ?_
   refine QL.m rfl ?_
   (first | refine QL.casesD (d := 24) rfl ?_ ?_ | refine QL.casesND (d := 24) rfl ?_ ?_ | refine QL.cases (d := 24) rfl ?_ ?_) <;> intro hg24
   ·
    -- t24 = T
    refine QL.g rfl rfl (fun wq hq => Y.fieldAddr fo_apiNode1 rfl) ?_
    refine QL.g rfl rfl (fun wq hq => Y.load1 Tryd.underlying25 rfl (hB2.ext hq).mem.node1 rfl) ?_
    refine QL.g rfl rfl (fun wq hq => Y.move rfl) ?_
    refine QL.g rfl rfl (fun wq hq => Y.subN (q := 1) rfl rfl om_ om_) ?_
    refine QL.g rfl rfl (fun wq hq => Y.indexAddrN Tryd.underlying25 rfl rfl sz0_apiDigest om_) ?_
    refine QL.g rfl rfl (fun wq hq => Y.load Tryd.underlying36 rfl ((hmq om_).ext hq) (sz_apiDigest _) rfl) ?_
    refine QL.g rfl rfl (fun wq hq => Y.fieldAddr fo_apiNode1 rfl) ?_
    refine QL.g rfl rfl (fun wq hq => Y.load1 Tryd.underlying25 rfl (hB2.ext hq).mem.node1 rfl) ?_
    refine QL.g rfl rfl (fun wq hq => Y.move rfl) ?_
    refine QL.g rfl rfl (fun wq hq => Y.indexAddrN Tryd.underlying25 rfl rfl sz0_apiDigest om_) ?_
    refine QL.g rfl rfl (fun wq hq => Y.load Tryd.underlying36 rfl (hma.ext hq) (sz_apiDigest _) rfl) ?_
    refine QL.gcall rfl rfl Tryd.func58 rfl rfl rfl (fun wq hq => ret_ext (less_any _ _ _) hq) de_ ?_
    refine QL.g rfl rfl (fun wq hq => Y.not rfl) ?_
    refine QL.v (fun wq hq => Y.pick rfl rfl) ?_
    refine QL.nil fun wq hq => ⟨⟨_, rfl, ?_⟩, hq, Fr.okp⟩
    exact tst_ok
   ·
    -- t24 = F
    refine QL.o rfl rfl ?_
    refine QL.o rfl rfl ?_
    refine QL.o rfl rfl ?_
    refine QL.o rfl rfl ?_
    refine QL.o rfl rfl ?_
    refine QL.o rfl rfl ?_
    refine QL.o rfl rfl ?_
    refine QL.o rfl rfl ?_
    refine QL.o rfl rfl ?_
    refine QL.o rfl rfl ?_
    refine QL.o rfl rfl ?_
    refine QL.o rfl rfl ?_
    refine QL.o rfl rfl ?_
    refine QL.v (fun wq hq => Y.pick rfl rfl) ?_
    refine QL.nil fun wq hq => ⟨⟨_, rfl, ?_⟩, hq, Fr.okp⟩
    exact tst_ok
  intro w3 hx3; have hz3 := hx3.size; have hE := hE.thenExt hx3; have hx := hx.ext hx3; have hM := hM.ext hx3; have hB2 := hB2.ext hx3
  (first | refine cd_ rfl ?_ ?_ | refine ce_ rfl ?_ ?_ | refine cn_ rfl ?_ ?_ | refine cb_ rfl ?_ ?_) <;> intro ht13
  ·
   -- then
   refine CW.sr fun K14 hK14 => ?_
   refine WL.a rfl ?_
   refine WL.nil (hK14 _ _ ?_); try clear hK14
   refine CW.ret ⟨_, rfl, ?_⟩
   exact ⟨by rw [wrongE, if_neg (by show ¬ 8 < ps.length; omega), if_pos (risB_not (hq0 ht13.1) (by rw [Nat.sub_add_cancel ht13.1]; exact hp) ht13.2)], hE⟩
  refine CW.skip ?_
  refine hK11 _ _ ?_; try clear hK11
  refine CW.region ?_
  refine WL.v (Y.add rfl rfl o2_) ?_
  refine WL.m rfl ?_
  refine WL.nil ?_
  refine ⟨x + 1, by show ps.length - (x + 1) < ps.length - x; omega, Fr.ok, by show x + 1 ≤ ps.length; omega, ?_, hE, hB2⟩
  intro i a2 b2 hi h1 h2
  by_cases e : i + 1 < x
  ·
   exact hris i a2 b2 e h1 h2
  ·
   have e2 : i = x - 1 := by omega
   subst e2
   rw [Nat.sub_add_cancel om_, hp] at h2
   rw [hq0 om_] at h1
   cases h1; cases h2
   cases hc : lessB q p with
   | true => rfl
   | false => exact absurd ⟨by omega, hc⟩ ht13
 refine CW.exit ?_
 refine hK6 _ _ ?_; try clear hK6
 refine CW.seq fun K15 hK15 => ?_
 refine CW.sr fun K16 hK16 => ?_
 refine WL.m rfl ?_
 refine WL.v (Y.fieldAddr fo_apiNode0 rfl) ?_
 refine WL.v (Y.load Tryd.underlying36 rfl hB2.mem.node0 (sz_apiDigest _) rfl) ?_
 refine WL.v (Y.lookupOk keyDig (fun _ => rfl) Tryd.underlying73 zero_int rfl rfl hM) ?_
 refine WL.m rfl ?_
 refine WL.v (Y.extract rfl rfl) ?_
 refine WL.v (Y.extract rfl rfl) ?_
 refine WL.a rfl ?_
 refine WL.a rfl ?_
 refine WL.nil (hK16 _ _ ?_); try clear hK16
 refine CW.sr fun K17 hK17 => ?_
 refine WL.m rfl ?_
 refine WL.nil (hK17 _ _ ?_); try clear hK17
 (first | refine cd_ rfl ?_ ?_ | refine ce_ rfl ?_ ?_ | refine cn_ rfl ?_ ?_ | refine cb_ rfl ?_ ?_) <;> intro ht18
 ·
  -- then
  refine CW.sr fun K19 hK19 => ?_
  refine WL.a rfl ?_
  refine WL.nil (hK19 _ _ ?_); try clear hK19
  refine CW.ret ⟨_, rfl, ?_⟩
  exact ⟨by rw [wrongE, if_neg (by show ¬ 8 < ps.length; omega), if_neg (by rw [risB_at fun i a b h1 h2 => hris i a b (by have := (List.getElem?_eq_some_iff.1 h2).1; omega) h1 h2]; decide), if_pos (by have := ht18; rw [placed_isSome] at this; simpa using this)], hE⟩
 refine CW.skip ?_
 refine hK15 _ _ ?_; try clear hK15
 refine CW.seq fun K20 hK20 => ?_
 refine CW.seq fun K21 hK21 => ?_
 have hrisT : risB ps = true := risB_at fun i a b h1 h2 => hris i a b (by have := (List.getElem?_eq_some_iff.1 h2).1; omega) h1 h2
 have hnid : ¬ id ∈ ids := fun h => by have := ht18; rw [placed_isSome] at this; simp [h] at this
 refine CW.region ?_
 refine WL.v (Y.fieldAddr fo_apiNode1 rfl) ?_
 refine WL.v (Y.load1 Tryd.underlying25 rfl hB2.mem.node1 rfl) ?_
 refine WL.v (Y.len_slice Tryd.underlying25 rfl) ?_
 refine WL.m rfl ?_
 refine WL.nil (hK21 _ _ ?_); try clear hK21
 refine CW.block ?_
 refine CW.loop (X := Nat) (fun x => [(1, .map (some r)), (2, .pointer (some ⟨g2, 0, none⟩)), (49, .slice A ps.length c), (50, .int .i64 (ps.length : Int)), (51, .int .i64 (x : Int))]) (fun x w0 => x ≤ ps.length ∧ (∀ i a, i < x → ps[i]? = some a → a ∈ ids) ∧ Ext w w0 ∧ Blk w0 g2 TNo (ndC ⟨⟨id, ps⟩, A, c⟩)) (fun x => ps.length - x) 0 Fr.ok ⟨Nat.zero_le _, (fun i a h => by omega), hE, hB2⟩ ?_
 intro x w4 hl4
 obtain ⟨hxl, hin, hE, hB2⟩ := hl4
 have hx := hx0.ext hE
 have hM := hM0.ext hE
 refine CW.sr fun K22 hK22 => ?_
 refine WL.v (Y.lss rfl rfl) ?_
 refine WL.nil (hK22 _ _ ?_); try clear hK22
 refine CW.seq fun K23 hK23 => ?_
 (first | refine cd_ rfl ?_ ?_ | refine ce_ rfl ?_ ?_ | refine cn_ rfl ?_ ?_ | refine cb_ rfl ?_ ?_) <;> intro ht24
 ·
  -- then
  refine CW.skip ?_
  refine hK23 _ _ ?_; try clear hK23
  refine CW.seq fun K25 hK25 => ?_
  refine CW.block ?_
  refine CW.seq fun K26 hK26 => ?_
  obtain ⟨p, hp⟩ : ∃ p, ps[x]? = some p := ⟨_, List.getElem?_eq_getElem om_⟩
  obtain ⟨a, rfl, hma⟩ := hx.at hp
  refine CW.region ?_
  refine WL.v (Y.indexAddrN Tryd.underlying25 rfl rfl sz0_apiDigest om_) ?_
  refine WL.v (Y.load Tryd.underlying36 rfl hma (sz_apiDigest _) rfl) ?_
  refine as_apiDigest rfl (by simp) de_ fun g9 w5 hx5 hg9 hB9 => ?_
  have hlt9 := hB9.lt; have hz5 := hx5.size
  have hM9 := hB9.mem; have hz5 := hx5.size; have hE := hE.thenExt hx5; have hx := hx.ext hx5; have hM := hM.ext hx5; have hB2 := hB2.ext hx5
  refine WL.nil (hK26 _ _ ?_); try clear hK26
  refine CW.sr fun K27 hK27 => ?_
  refine WL.m rfl ?_
  refine WL.v (Y.load Tryd.underlying36 rfl hB9.mem (sz_apiDigest _) rfl) ?_
  refine WL.v (Y.lookupOk keyDig (fun _ => rfl) Tryd.underlying73 zero_int rfl rfl hM) ?_
  refine WL.m rfl ?_
  refine WL.v (Y.extract rfl rfl) ?_
  refine WL.v (Y.extract rfl rfl) ?_
  refine WL.a rfl ?_
  refine WL.a rfl ?_
  refine WL.nil (hK27 _ _ ?_); try clear hK27
  refine CW.sr fun K28 hK28 => ?_
  refine WL.m rfl ?_
  refine WL.v (Y.not rfl) ?_
  refine WL.nil (hK28 _ _ ?_); try clear hK28
  (first | refine cd_ rfl ?_ ?_ | refine ce_ rfl ?_ ?_ | refine cn_ rfl ?_ ?_ | refine cb_ rfl ?_ ?_) <;> intro ht29
  ·
   -- then
   refine CW.sr fun K30 hK30 => ?_
   refine WL.a rfl ?_
   refine WL.nil (hK30 _ _ ?_); try clear hK30
   refine CW.ret ⟨_, rfl, ?_⟩
   exact ⟨by rw [wrongE, if_neg (by show ¬ 8 < ps.length; omega), if_neg (by show ¬ risB ps = false; rw [hrisT]; decide), if_neg hnid, if_pos ⟨p, List.mem_of_getElem? hp, by have := ht29; rw [placed_isSome] at this; simpa using this⟩], hE⟩
  refine CW.skip ?_
  refine hK25 _ _ ?_; try clear hK25
  refine CW.region ?_
  refine WL.v (Y.add rfl rfl o2_) ?_
  refine WL.m rfl ?_
  refine WL.nil ?_
  refine ⟨x + 1, by show ps.length - (x + 1) < ps.length - x; omega, Fr.ok, by show x + 1 ≤ ps.length; omega, ?_, hE, hB2⟩
  intro i a2 hi h1
  by_cases e : i < x
  ·
   exact hin i a2 e h1
  ·
   have e2 : i = x := by omega
   subst e2
   rw [hp] at h1; cases h1
   have := ht29; rw [placed_isSome] at this; simpa using this
 refine CW.exit ?_
 refine hK20 _ _ ?_; try clear hK20
 refine CW.sr fun K31 hK31 => ?_
 refine WL.a rfl ?_
 refine WL.nil (hK31 _ _ ?_); try clear hK31
 refine CW.ret ⟨_, rfl, ?_⟩
 exact ⟨by rw [wrongE, if_neg (by show ¬ 8 < ps.length; omega), if_neg (by show ¬ risB ps = false; rw [hrisT]; decide), if_neg hnid, if_neg (by
  rintro ⟨p, hp, hn⟩
  obtain ⟨i, hi⟩ := List.mem_iff_getElem?.1 hp
  have hi : ps[i]? = some p := hi
  exact hn (hin i p (by have := (List.getElem?_eq_some_iff.1 hi).1; omega) hi))], hE⟩
theorem gread_any (u : Value) (l : List NdV) (w : World) (hl : Nds w u l) : Calls Tryd.prog 69 #[u] w (Ret fun v w' => ∃ m, v = .tuple #[m, .int .i64 ((readE (ndsL l)).1 : Int), .int .i64 (readE (ndsL l)).2] ∧ ((readE (ndsL l)).2 = 0 → ∃ r, m = .map (some r) ∧ w.heap.size ≤ r ∧ MapAt w' r pme (placed (idsL (ndsL l))) l.length) ∧ Ext w w') := by
 have hl0 := hl
 obtain ⟨⟨A, m, c, rfl, hlm, hmc, hcm, hlx⟩, hps⟩ := hl
 unfold maxLen at hcm
 obtain ⟨id, hid, hzd, _⟩ := info_apiNode
 have hln : (ndsL l).length = m := by simpa using hlm
 refine calls_of_CW 35 [2, 3, 4] [(0, .slice A m c)] Tryd.func69 rfl rfl rfl (by simp) args1 ?_
 have hE : Ext w w := Chg.refl
 refine CW.sr fun K1 hK1 => ?_
 refine WL.a rfl ?_
 refine WL.a rfl ?_
 refine WL.a rfl ?_
 refine WL.nil (hK1 _ _ ?_); try clear hK1
 refine CW.seq fun K2 hK2 => ?_
 refine CW.sr fun K3 hK3 => ?_
 refine WL.m rfl ?_
 refine WL.v (Y.len_slice Tryd.underlying48 rfl) ?_
 refine WL.v (Y.gtr rfl rfl) ?_
 refine WL.nil (hK3 _ _ ?_); try clear hK3
 (first | refine cd_ rfl ?_ ?_ | refine ce_ rfl ?_ ?_ | refine cn_ rfl ?_ ?_ | refine cb_ rfl ?_ ?_) <;> intro ht4
 ·
  -- then
  refine CW.sr fun K5 hK5 => ?_
  refine WL.a rfl ?_
  refine WL.a rfl ?_
  refine WL.a rfl ?_
  refine WL.nil (hK5 _ _ ?_); try clear hK5
  refine CW.ret ⟨_, rfl, ?_⟩
  have he : readE (ndsL l) = (0, 4) := by rw [readE, if_pos om_]
  exact ⟨_, by rw [he]; rfl, fun h => by rw [he] at h; simp at h, hE⟩
 refine CW.skip ?_
 refine hK2 _ _ ?_; try clear hK2
 refine CW.sr fun K6 hK6 => ?_
 refine WL.m rfl ?_
 refine WL.v (Y.len_slice Tryd.underlying48 rfl) ?_
 refine WL.st (St.makeMapN Tryd.underlying73 rfl) de_ fun v14 w1 hR1 => ?_
 obtain ⟨r, rfl, hr, hMp, hx1⟩ := hR1
 have hz1 := hx1.size
 have hE := hE.thenExt hx1
 have hM := hMp _ pme
 have hre : readE (ndsL l) = fwrong (ndsL l) [] 0 := by rw [readE, if_neg om_]
 refine WL.a rfl ?_
 refine WL.nil (hK6 _ _ ?_); try clear hK6
 refine CW.seq fun K7 hK7 => ?_
 refine CW.sr fun K8 hK8 => ?_
 refine WL.m rfl ?_
 refine WL.v (Y.len_slice Tryd.underlying48 rfl) ?_
 refine WL.m rfl ?_
 refine WL.nil (hK8 _ _ ?_); try clear hK8
 refine CW.block ?_
 refine CW.loop (X := Nat) (fun x => [(5, .map (some r)), (15, .slice A m c), (16, .int .i64 (m : Int)), (17, .int .i64 (x : Int))]) (fun x w0 => x ≤ m ∧ fwrong (ndsL l) [] 0 = fwrong ((ndsL l).drop x) (idsL ((ndsL l).take x)) x ∧ Ext w w0 ∧ MapAt w0 r pme (placed (idsL ((ndsL l).take x))) x) (fun x => m - x) 0 Fr.ok ⟨Nat.zero_le _, by simp, hE, by simpa using hM⟩ ?_
 intro x w2 hl2
 clear hE hM
 obtain ⟨hxm, hfw, hE, hM⟩ := hl2
 have hzE := hE.size
 refine CW.sr fun K9 hK9 => ?_
 refine WL.v (Y.lss rfl rfl) ?_
 refine WL.nil (hK9 _ _ ?_); try clear hK9
 refine CW.seq fun K10 hK10 => ?_
 (first | refine cd_ rfl ?_ ?_ | refine ce_ rfl ?_ ?_ | refine cn_ rfl ?_ ?_ | refine cb_ rfl ?_ ?_) <;> intro ht11
 ·
  -- then
  refine CW.skip ?_
  refine hK10 _ _ ?_; try clear hK10
  refine CW.seq fun K12 hK12 => ?_
  refine CW.block ?_
  refine CW.seq fun K13 hK13 => ?_
  obtain ⟨y, hy⟩ : ∃ y, l[x]? = some y := ⟨_, List.getElem?_eq_getElem om_⟩
  obtain ⟨a, rfl, hma⟩ := hlx _ _ hy
  have hyn : (ndsL l)[x]? = some y.n := by simp [hy]
  refine CW.region ?_
  refine WL.m rfl ?_
  refine WL.v (Y.indexAddrN Tryd.underlying48 rfl rfl sz0_apiNode om_) ?_
  refine WL.v (Y.load Tryd.underlying52 rfl (hma.ext hE) (sz_apiNode _) rfl) ?_
  refine WL.alloc (hid) (hzd) rfl de_ fun g7 w3 hx3 hg7 hB7 => ?_
  have hlt7 := hB7.lt; have hz3 := hx3.size
  have hM7 := hB7.mem; have hz3 := hx3.size; have hE := hE.thenExt hx3
  refine WL.a rfl ?_
  refine WL.store (g := g7) (pre := []) (old := ndC NdV.zero) (post := []) (new := ndC y) rfl rfl rfl rfl (sz_apiNode _) (by simpa using hB7) (by rw [ndC_length, ndC_length]) (one_ndC) (fun w4 hc4 hB4_ => ?_)
  have hz4 := hc4.size; have hE := hE.step hc4 (fun k h => by omega)
  have hB7 : Blk w4 g7 TNo (ndC y) := by simpa using hB4_
  have hM := (hM.ext hx3).chg hc4 (fun h => by have := hM.lt; omega)
  refine WL.nil (hK13 _ _ ?_); try clear hK13
  refine CW.seq fun K14 hK14 => ?_
  refine CW.sr fun K15 hK15 => ?_
  refine WL.v (Y.load Tryd.underlying52 rfl hB7.mem (sz_apiNode _) rfl) ?_
  refine WL.m rfl ?_
  refine WL.call Tryd.func77 rfl rfl rfl (gwrong_any y _ r _ _ ((hps y (List.mem_of_getElem? hy)).ext hE) hM) (by simp) ?_; rintro v w5 ⟨rfl, hx5⟩; have hz5 := hx5.size; have hE := hE.thenExt hx5; have hB7 := hB7.ext hx5
  refine WL.a rfl ?_
  refine WL.nil (hK15 _ _ ?_); try clear hK15
  refine CW.sr fun K16 hK16 => ?_
  refine WL.m rfl ?_
  refine WL.v (Y.neq rfl rfl) ?_
  refine WL.nil (hK16 _ _ ?_); try clear hK16
  (first | refine cd_ rfl ?_ ?_ | refine ce_ rfl ?_ ?_ | refine cn_ rfl ?_ ?_ | refine cb_ rfl ?_ ?_) <;> intro ht17
  ·
   -- then
   refine CW.sr fun K18 hK18 => ?_
   refine WL.m rfl ?_
   refine WL.m rfl ?_
   refine WL.a rfl ?_
   refine WL.a rfl ?_
   refine WL.a rfl ?_
   refine WL.nil (hK18 _ _ ?_); try clear hK18
   refine CW.ret ⟨_, rfl, ?_⟩
   exact ⟨_, by rw [hre, hfw, fwrong_stop hyn (by assumption)], fun h => by rw [hre, hfw, fwrong_stop hyn (by assumption)] at h; exact absurd h (by assumption), hE⟩
  refine CW.skip ?_
  refine hK14 _ _ ?_; try clear hK14
  have hw0 : wrongE (idsL ((ndsL l).take x)) y.n = 0 := Decidable.not_not.1 (by assumption)
  have hok := wrong_ok hw0
  have hM := hM.ext hx5
  refine CW.region ?_
  refine WL.m rfl ?_
  refine WL.v (Y.fieldAddr fo_apiNode0 rfl) ?_
  refine WL.v (Y.load Tryd.underlying36 rfl hB7.mem.node0 (sz_apiDigest _) rfl) ?_
  refine WL.m rfl ?_
  refine WL.su (Su.mapNew (b := (y.n.id, x)) keyDig (fun _ => rfl) Tryd.underlying73 rfl rfl rfl hM (placed_none hok.2.2.1) rfl) fun w6 hR6 => ?_
  obtain ⟨hM, hc6⟩ := hR6
  have hz6 := hc6.size
  have hE := hE.step hc6 (fun k h => by omega)
  refine WL.nil (hK12 _ _ ?_); try clear hK12
  refine CW.region ?_
  refine WL.v (Y.add rfl rfl o2_) ?_
  refine WL.m rfl ?_
  refine WL.nil ?_
  refine ⟨x + 1, by show m - (x + 1) < m - x; omega, Fr.ok, by show x + 1 ≤ m; omega, hfw.trans (fwrong_step hyn hw0), hE, ?_⟩
  show MapAt _ r pme (placed (idsL ((ndsL l).take (x + 1)))) (x + 1)
  rw [take_succ hyn, idsL, List.map_append, List.map_cons, List.map_nil, placed_app]
  have e : (List.map Nd.id (List.take x (ndsL l))).length = x := by rw [List.length_map, List.length_take]; omega
  rw [e]; exact hM
 refine CW.exit ?_
 refine hK7 _ _ ?_; try clear hK7
 refine CW.sr fun K19 hK19 => ?_
 refine WL.m rfl ?_
 refine WL.a rfl ?_
 refine WL.a rfl ?_
 refine WL.a rfl ?_
 refine WL.nil (hK19 _ _ ?_); try clear hK19
 refine CW.ret ⟨_, rfl, ?_⟩
 have hxm2 : x = m := by omega
 subst hxm2
 have e1 : (ndsL l).drop x = [] := List.drop_of_length_le om_
 have e2 : (ndsL l).take x = ndsL l := List.take_of_length_le om_
 have hr0 : readE (ndsL l) = (0, 0) := by rw [hre, hfw, e1]; rfl
 rw [e2] at hM
 exact ⟨_, by rw [hr0]; rfl, fun _ => ⟨r, rfl, hr, by rw [hlm]; exact hM⟩, hE⟩
end Go.Proofs.YtmehkigmnpjcjaaDoor
/- The reference's reading of a list of nodes: Find, wrong, Check, Wrong, walked. No condition. -/
namespace Go.Pl
open Go.Fw
def findI (ids : List Dig) (d : Dig) : Int := if d ∈ ids then (ids.idxOf d : Int) else -1
theorem findI_at {ids : List Dig} {d : Dig} {i : Nat} (hi : ids[i]? = some d) (h : ∀ j, j < i → ids[j]? ≠ some d) : findI ids d = (i : Int) := by
 have hm : d ∈ ids := List.mem_of_getElem? hi
 rw [findI, if_pos hm]
 have hlt := List.idxOf_lt_length_iff.2 hm
 have h1 : ids[ids.idxOf d]? = some d := by
  rw [List.getElem?_eq_getElem hlt, List.getElem_idxOf hlt]
 have h2 : ¬ ids.idxOf d < i := fun hc => h _ hc h1
 have h3 : ids.idxOf d ≤ i := by
  obtain ⟨hil, hid⟩ := List.getElem?_eq_some_iff.1 hi
  refine Nat.le_of_not_lt fun hc => ?_
  have := List.not_of_lt_findIdx (p := fun x => x == d) (xs := ids) hc
  simp [hid] at this
 omega
def wrongQ (l : List Nd) (ids : List Dig) : Int := if (readE l).2 ≠ 0 then (readE l).2 else if ∃ d ∈ ids, d ∉ idsL l then 5 else 0
end Go.Pl
namespace Go.Proofs.YtmehkigmnpjcjaaDoor
open Go.RowKit Go.Fw Go.Pl Go.Sort
theorem Nds.take {w : World} {A : Option Addr} {m c : Nat} {l : List NdV} (h : Nds w (.slice A m c) l) {i : Nat} (hi : i ≤ m) : Nds w (.slice A i c) (l.take i) := by
 obtain ⟨⟨A', m', c', he, hl, hmc, hcm, hx⟩, hp⟩ := h
 cases he
 refine ⟨⟨A, i, c, rfl, by rw [List.length_take]; omega, by omega, hcm, fun j x hj => ?_⟩, fun x hx => hp x (List.mem_of_mem_take hx)⟩
 rw [List.getElem?_take] at hj
 split at hj
 ·
  exact hx j x hj
 ·
  cases hj
end Go.Proofs.YtmehkigmnpjcjaaDoor
/- Slices of bools of our own: made, read, written, cleared. No condition. -/
namespace Go.Fw
open Go.RowKit
def boolC (S : List Bool) : List Value := S.map Value.bool
theorem boolC_length (S : List Bool) : (boolC S).length = S.length := by simp [boolC]
theorem boolC_split {S : List Bool} {i : Nat} {c : Bool} (v : Bool) (h : S[i]? = some c) : boolC S = boolC (S.take i) ++ [.bool c] ++ boolC (S.drop (i + 1)) ∧ boolC (S.set i v) = boolC (S.take i) ++ [.bool v] ++ boolC (S.drop (i + 1)) := by
 obtain ⟨hlt, hc⟩ := List.getElem?_eq_some_iff.1 h
 have e1 : S = S.take i ++ [c] ++ S.drop (i + 1) := by
  conv => lhs; rw [← List.take_append_drop i S, List.drop_eq_getElem_cons hlt, hc]
  simp
 have e2 : S.set i v = S.take i ++ [v] ++ S.drop (i + 1) := by
  rw [List.set_eq_take_append_cons_drop, if_pos hlt]
  simp
 constructor
 ·
  conv => lhs; rw [e1]
  simp [boolC]
 ·
  rw [e2]; simp [boolC]
section
variable {P : Program} {n : NN} {Φ : Exit → Fr → World → Prop} {fr : Fr} {w : World} {ty : TypeId} {e : TypeId} {b : Nat} {S : List Bool}
theorem Blk.bcell (h : Blk w b e (boolC S)) {i : Nat} {v : Bool} (hi : S[i]? = some v) : w.cell? ((⟨b, 0, none⟩ : Addr).add (i * 1)) = some (.bool v) := by
 rw [Nat.mul_one]
 exact h.mem.cell i (by rw [boolC, List.getElem?_map, hi]; rfl)
theorem WL.storeB {ops : Array Oper} {rest : List Oper} {t : TypeId} {x y : Operand} {pos : String} {aft : Array Edge} {v c : Bool} {i : Nat} {A : Addr}
  (hx : ev fr x = some (.pointer (some A))) (hA : A = (⟨b, 0, none⟩ : Addr).add (i * 1)) (hy : ev fr y = some (.bool v)) (hS : (P.info? t).map (·.size) = some 1) (hB : Blk w b e (boolC S)) (hi : S[i]? = some c)
  (h : ∀ w', Chg (· = b) w w' → Blk w' b e (boolC (S.set i v)) → WL P ops n Φ rest fr w') : WL P ops n Φ (⟨none, .store t x y, ty, pos, aft, none⟩ :: rest) fr w := by
 obtain ⟨e1, e2⟩ := boolC_split v hi
 have hlt := (List.getElem?_eq_some_iff.1 hi).1
 refine WL.store (g := b) (pre := boolC (S.take i)) (old := [.bool c]) (post := boolC (S.drop (i + 1))) (new := [.bool v]) hx ?_ hy rfl hS (e1 ▸ hB) rfl (one1 rfl) fun w' hc hB' => ?_
 ·
  rw [hA, Nat.mul_one, add_zero', boolC_length, List.length_take, Nat.min_eq_left om_]
 ·
  exact h w' hc (e2 ▸ hB')
theorem St.makeB {t : TypeId} {x y : Operand} {k k' : IntKind} {m : Nat} {i : TypeInfo} (hT : P.underlying t = some (.slice e)) (hi : P.info? e = some i) (hz : i.zero = some (.bool false)) (h1 : i.size = 1) (hb : i.bytes = 1)
  (hx : ev fr x = some (.int k (m : Int))) (hy : ev fr y = some (.int k' (m : Int))) (hm : m ≤ 281474976710656) :
  St P n fr (.makeSlice t x y) ty w (fun v w' => ∃ g, v = .slice (some ⟨g, 0, none⟩) m m ∧ w.heap.size ≤ g ∧ Blk w' g e (boolC (List.replicate m false)) ∧ Ext w w') := fun a o' ho hty ha => by
 have hr := run_make (P := P) w t e i (.bool false) hT hi hz k k' (m : Int) (m : Int) om_ (Int.le_refl _) (by rw [hb]; omega) om_
 simp only [Int.toNat_natCast, h1, Nat.mul_one] at hr
 refine ⟨_, w.alloc (.cells (madeCells (Value.bool false).cells m) e), ?_, w.heap.size, rfl, Nat.le_refl _, ?_, Chg.alloc _⟩
 ·
  simp only [execOp, ho, ha.ev hx, ha.ev hy, Sem.run_bind]
  rw [hr]; rfl
 ·
  have e0 : madeCells (Value.bool false).cells m = (boolC (List.replicate m false)).toArray := by
   unfold madeCells
   apply Array.ext_getElem?
   intro j
   simp only [boolC, List.map_replicate, List.getElem?_toArray, Array.getElem?_map, List.getElem?_replicate]
   have hc : (Value.bool false).cells = #[.bool false] := rfl
   rw [hc]
   by_cases hj : j < m
   ·
    simp [hj, Array.getElem?_range, Nat.mod_one]
   ·
    simp [hj, Array.getElem?_range]
  rw [e0]
  exact Blk.new w e _
theorem WL.callV {ops : Array Oper} {rest : List Oper} {dst : Option Nat} {t : Nat} {f : FuncId} {args : List Operand} {tys : Array TypeId} {pos : String} {aft : Array Edge} {vs cap : List Value} {fn : Func}
  {R : Value → World → Prop} (ht : fr.get t = some (.func (.func f) #[] cap.toArray))
  (hf : P.funcs[f]? = some fn) (hb : fn.body.isNone = false) (hn : (fn.name == "runtime.NumGoroutine") = false)
  (he : evs fr args = some vs) (hC : Calls P f (vs ++ cap).toArray w (Ret R)) (hd : ∀ d, dst = some d → d < n.1)
  (h : ∀ v w', R v w' → WL P ops n Φ rest (match dst with | some d => (d, v) :: fr | none => fr) w') :
  WL P ops n Φ (⟨dst, .call { callee := .value (.tmp t), args := args.toArray, argTypes := tys }, ty, pos, aft, none⟩ :: rest) fr w := fun a ha =>
 wpList_plain rfl fun K hK => by
  have hrun : (execOp a.eval ⟨dst, .call { callee := .value (.tmp t), args := args.toArray, argTypes := tys }, ty, pos, aft, none⟩).run P w = .ok (.enter f (vs ++ cap).toArray) w := by
   have h1 := ha.evs he
   have h2 : a.eval (.tmp t) = .func (.func f) #[] cap.toArray := ha.ev (x := .tmp t) ht
   simp [execOp, resolve, invoke, Deferred.ofValue, h2, h1, run_callFunc hf hb hn]
  unfold Oper.wp
  rw [hrun]
  refine hC.mono fun e w' hr => ?_
  cases e with
  | returned v =>
   refine hK _ _ (h v w' hr _ ?_)
   cases dst with
   | none => exact ha
   | some d => exact ha.put (hd d rfl) v
  | panicked ch => exact hr.elim
  | outgrown => exact hr.elim
end
end Go.Fw
