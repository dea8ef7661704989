/- Parts of a proof: what its last text leans on. No condition. -/
import Derived.Laws.MakeOwn
import Derived.RangeFuncSeq
import Derived.Test.YtjbeooimhoilmaaGreatDoorK02
import Derived.Test.YtjbeooimhoilmaaGreatDoorK03
import Derived.Test.YtjbeooimhoilmaaGreatDoorK07
import Derived.Test.YtjbeooimhoilmaaGreatDoorK09
import Derived.Test.YtjbeooimhoilmaaGreatDoorK10
set_option linter.unusedSimpArgs false
set_option linter.unusedVariables false
/- The reference's reading of a list of nodes: Find, wrong, Check, Wrong, walked. No condition. -/
namespace Go.Pl
open Go.Fw
def findI (ids : List Dig) (d : Dig) : Int := if d ∈ ids then (ids.idxOf d : Int) else -1
theorem findI_neg {ids : List Dig} {d : Dig} : findI ids d < 0 ↔ d ∉ ids := by
 unfold findI
 split <;> rename_i h
 ·
  exact ⟨fun x => by omega, fun x => absurd h x⟩
 ·
  exact ⟨fun _ => h, fun _ => by omega⟩
theorem findI_at {ids : List Dig} {d : Dig} {i : Nat} (hi : ids[i]? = some d) (h : ∀ j, j < i → ids[j]? ≠ some d) : findI ids d = (i : Int) := by
 have hm : d ∈ ids := List.mem_of_getElem? hi
 rw [findI, if_pos hm]
 have hlt := List.idxOf_lt_length_iff.2 hm
 have h1 : ids[ids.idxOf d]? = some d := by
  rw [List.getElem?_eq_getElem hlt, List.getElem_idxOf hlt]
 have h2 : ¬ ids.idxOf d < i := fun hc => h _ hc h1
 have h3 : ids.idxOf d ≤ i := by
  obtain ⟨hil, hid⟩ := List.getElem?_eq_some_iff.1 hi
  refine Nat.le_of_not_lt fun hc => ?_
  have := List.not_of_lt_findIdx (p := fun x => x == d) (xs := ids) hc
  simp [hid] at this
 omega
def wrongQ (l : List Nd) (ids : List Dig) : Int := if (readE l).2 ≠ 0 then (readE l).2 else if ∃ d ∈ ids, d ∉ idsL l then 5 else 0
end Go.Pl
namespace Go.Proofs.YtjbeooimhoilmaaGreatDoor
open Go.RowKit Go.Fw Go.Pl Go.Sort
theorem Nds.take {w : World} {A : Option Addr} {m c : Nat} {l : List NdV} (h : Nds w (.slice A m c) l) {i : Nat} (hi : i ≤ m) : Nds w (.slice A i c) (l.take i) := by
 obtain ⟨⟨A', m', c', he, hl, hmc, hcm, hx⟩, hp⟩ := h
 cases he
 refine ⟨⟨A, i, c, rfl, by rw [List.length_take]; omega, by omega, hcm, fun j x hj => ?_⟩, fun x hx => hp x (List.mem_of_mem_take hx)⟩
 rw [List.getElem?_take] at hj
 split at hj
 ·
  exact hx j x hj
 ·
  cases hj
theorem rFind_any (u : Value) (l : List NdV) (d : Dig) (w : World) (hl : Nds w u l) : Calls Tryz.prog 41 #[u, digV d] w (Ret fun v w' => v = .int .i64 (findI (idsL (ndsL l)) d) ∧ Ext w w') := by
 have hl0 := hl
 obtain ⟨⟨A, m, c, rfl, hlm, hmc, hcm, hlx⟩, hps⟩ := hl
 unfold maxLen at hcm
 refine calls_of_CW 20 [4] [(0, .slice A m c), (1, digV d)] Tryz.func41 rfl rfl rfl (by simp) args2 ?_
 have hE : Ext w w := Chg.refl
 refine CW.sr fun K1 hK1 => ?_
 refine WL.box rfl rfl (by decide) fun g3 w1 hx1 hg3 hB3 => ?_
 have hlt3 := hB3.lt; have hz1 := hx1.size
 have hM3 := hB3.mem; have hz1 := hx1.size; have hE := hE.thenExt hx1
 refine WL.a rfl ?_
 refine WL.nil (hK1 _ _ ?_); try clear hK1 K1
 refine CW.seq fun K2 hK2 => ?_
 refine CW.sr fun K3 hK3 => ?_
 refine WL.a rfl ?_
 refine WL.nil (hK3 _ _ ?_); try clear hK3 K3
 refine CW.block ?_
 refine CW.loop (X := Nat) (fun x => [(0, .slice A m c), (3, .pointer (some ⟨g3, 0, none⟩)), (5, .int .i64 (x : Int))]) (fun x w0 => x ≤ m ∧ (∀ j, j < x → (idsL (ndsL l))[j]? ≠ some d) ∧ Ext w w0 ∧ Blk w0 g3 43 (digC d)) (fun x => m - x) 0 Fr.ok ⟨Nat.zero_le _, (fun j h => by omega), hE, hB3⟩ ?_
 intro x w2 hl2
 obtain ⟨hxm, hno, hE, hB3⟩ := hl2
 refine CW.seq fun K4 hK4 => ?_
 refine CW.sr fun K5 hK5 => ?_
 refine WL.m rfl ?_
 refine WL.m rfl ?_
 refine WL.v (Y.len_slice Tryz.underlying37 rfl) ?_
 refine WL.v (Y.lss rfl rfl) ?_
 refine WL.nil (hK5 _ _ ?_); try clear hK5 K5
 (first | refine CW.condD rfl ?_ ?_ | refine CW.condND rfl ?_ ?_ | refine CW.condN rfl ?_ ?_ | refine CW.cond rfl ?_ ?_) <;> intro ht6
 ·
  -- then
  refine CW.skip ?_
  refine hK4 _ _ ?_; try clear hK4 K4
  refine CW.seq fun K7 hK7 => ?_
  refine CW.block ?_
  refine CW.seq fun K8 hK8 => ?_
  obtain ⟨y, hy⟩ : ∃ y, l[x]? = some y := ⟨_, List.getElem?_eq_getElem (by omega)⟩
  obtain ⟨a, rfl, hma⟩ := hlx _ _ hy
  have hyi : (idsL (ndsL l))[x]? = some y.n.id := by simp [hy]
  refine CW.quiet (fun wq => Ext w2 wq) (by kernel_rfl) (by kernel_rfl) Chg.drew ?_
  refine QL.m rfl ?_
  refine QL.m rfl ?_
  refine QL.v (fun wq hq => Y.indexAddrN Tryz.underlying37 rfl rfl sz0_apiNode (by omega)) ?_
  refine QL.v (fun wq hq => Y.fieldAddr fo_apiNode0 rfl) ?_
  refine QL.v (fun wq hq => Y.load Tryz.underlying43 rfl ((hma.ext hE).ext hq).node0 (sz_apiDigest _) rfl) ?_
  refine QL.v (fun wq hq => Y.load Tryz.underlying43 rfl (hB3.ext hq).mem (sz_apiDigest _) rfl) ?_
  refine QL.v (fun wq hq => Y.eql_apiDigest rfl rfl) ?_
  refine QL.nil fun w3 hx3 => ?_
  have hz3 := hx3.size
  have hE := hE.thenExt hx3
  have hB3 := hB3.ext hx3
  refine hK8 _ _ ?_; try clear hK8 K8
  (first | refine CW.condD rfl ?_ ?_ | refine CW.condND rfl ?_ ?_ | refine CW.condN rfl ?_ ?_ | refine CW.cond rfl ?_ ?_) <;> intro ht9
  ·
   -- then
   refine CW.sr fun K10 hK10 => ?_
   refine WL.m rfl ?_
   refine WL.a rfl ?_
   refine WL.nil (hK10 _ _ ?_); try clear hK10 K10
   refine CW.ret ⟨_, rfl, ?_⟩
   exact ⟨by rw [findI_at (by rw [← ht9]; exact hyi) hno], hE⟩
  refine CW.skip ?_
  refine hK7 _ _ ?_; try clear hK7 K7
  refine CW.region ?_
  refine WL.m rfl ?_
  refine WL.v (Y.add rfl rfl ⟨by omega, by omega⟩) ?_
  refine WL.a rfl ?_
  refine WL.nil ?_
  refine ⟨x + 1, by show m - (x + 1) < m - x; omega, Fr.ok, by show x + 1 ≤ m; omega, ?_, hE, hB3⟩
  intro j hj hje
  by_cases e : j = x
  ·
   subst e; rw [hyi] at hje; cases hje; exact ht9 rfl
  ·
   exact hno j (by omega) hje
 refine CW.exit ?_
 refine hK2 _ _ ?_; try clear hK2 K2
 refine CW.sr fun K11 hK11 => ?_
 refine WL.a rfl ?_
 refine WL.nil (hK11 _ _ ?_); try clear hK11 K11
 refine CW.ret ⟨_, rfl, ?_⟩
 refine ⟨?_, hE⟩
 have hn : d ∉ idsL (ndsL l) := fun h => by
  obtain ⟨j, hj⟩ := List.mem_iff_getElem?.1 h
  have hlt := (List.getElem?_eq_some_iff.1 hj).1
  simp only [List.length_map] at hlt
  exact hno j (by omega) hj
 rw [findI, if_neg hn]
set_option maxHeartbeats 1000000 in
theorem rwrong7_any (u : Value) (l : List NdV) (k : Nat) (y : NdV) (w : World) (hl : Nds w u l) (hk : l[k]? = some y) : Calls Tryz.prog 63 #[u, .int .i64 (k : Int)] w (Ret fun v w' => v = .int .i64 (wrongE (idsL ((ndsL l).take k)) y.n) ∧ Ext w w') := by
 have hl0 := hl
 obtain ⟨⟨A, m, c, rfl, hlm, hmc, hcm, hlx⟩, hps⟩ := hl
 unfold maxLen at hcm
 obtain ⟨⟨id, ps⟩, Ay, cy⟩ := y
 obtain ⟨a, rfl, hma⟩ := hlx _ _ hk
 have hpy := hps _ (List.mem_of_getElem? hk)
 have hpy0 := hpy
 dsimp only [NdV.pv] at hpy hpy0
 obtain ⟨_, _, _, he, hpl, hcy, hcy2, _⟩ := hpy
 cases he
 unfold maxLen at hcy2
 have hkm : k < m := by have := (List.getElem?_eq_some_iff.1 hk).1; omega
 have htk : idsL (ndsL (l.take k)) = idsL ((ndsL l).take k) := by simp [idsL, ndsL, List.map_take]
 dsimp only
 refine calls_of_CW 58 [4] [(0, .slice (some a) m c), (1, .int .i64 (k : Int))] Tryz.func63 rfl rfl rfl (by simp) args2 ?_
 have hE : Ext w w := Chg.refl
 refine CW.sr fun K1 hK1 => ?_
 refine WL.a rfl ?_
 refine WL.nil (hK1 _ _ ?_); try clear hK1 K1
 refine CW.sr fun K2 hK2 => ?_
 refine WL.m rfl ?_
 refine WL.m rfl ?_
 refine WL.v (Y.indexAddrN Tryz.underlying37 rfl rfl sz0_apiNode (by omega)) ?_
 refine WL.v (Y.fieldAddr fo_apiNode1 rfl) ?_
 refine WL.v (Y.load1 Tryz.underlying24 rfl hma.node1 rfl) ?_
 refine WL.a rfl ?_
 refine WL.nil (hK2 _ _ ?_); try clear hK2 K2
 refine CW.seq fun K3 hK3 => ?_
 refine CW.sr fun K4 hK4 => ?_
 refine WL.m rfl ?_
 refine WL.v (Y.len_slice Tryz.underlying24 rfl) ?_
 refine WL.v (Y.gtr rfl rfl) ?_
 refine WL.nil (hK4 _ _ ?_); try clear hK4 K4
 (first | refine CW.condD rfl ?_ ?_ | refine CW.condND rfl ?_ ?_ | refine CW.condN rfl ?_ ?_ | refine CW.cond rfl ?_ ?_) <;> intro ht5
 ·
  -- then
  refine CW.sr fun K6 hK6 => ?_
  refine WL.a rfl ?_
  refine WL.nil (hK6 _ _ ?_); try clear hK6 K6
  refine CW.ret ⟨_, rfl, ?_⟩
  exact ⟨by rw [wrongE, if_pos (by show 8 < ps.length; omega)], hE⟩
 refine CW.skip ?_
 refine hK3 _ _ ?_; try clear hK3 K3
 refine CW.seq fun K7 hK7 => ?_
 refine CW.sr fun K8 hK8 => ?_
 refine WL.a rfl ?_
 refine WL.nil (hK8 _ _ ?_); try clear hK8 K8
 refine CW.block ?_
 refine CW.loop (X := Nat) (fun x => [(0, .slice (some a) m c), (1, .int .i64 (k : Int)), (5, .slice Ay ps.length cy), (6, .int .i64 (x : Int))]) (fun x w0 => 1 ≤ x ∧ (x ≤ ps.length ∨ x = 1) ∧ (∀ i a b, i + 1 < x → ps[i]? = some a → ps[i + 1]? = some b → lessB a b = true) ∧ Ext w w0) (fun x => ps.length - x) 1 Fr.ok ⟨Nat.le_refl _, .inr rfl, (fun i a b h => by omega), hE⟩ ?_
 intro x w1 hl1
 obtain ⟨hx1, hxl, hris, hE⟩ := hl1
 refine CW.seq fun K9 hK9 => ?_
 refine CW.sr fun K10 hK10 => ?_
 refine WL.m rfl ?_
 refine WL.m rfl ?_
 refine WL.v (Y.len_slice Tryz.underlying24 rfl) ?_
 refine WL.v (Y.lss rfl rfl) ?_
 refine WL.nil (hK10 _ _ ?_); try clear hK10 K10
 (first | refine CW.condD rfl ?_ ?_ | refine CW.condND rfl ?_ ?_ | refine CW.condN rfl ?_ ?_ | refine CW.cond rfl ?_ ?_) <;> intro ht11
 ·
  -- then
  refine CW.skip ?_
  refine hK9 _ _ ?_; try clear hK9 K9
  refine CW.seq fun K12 hK12 => ?_
  refine CW.block ?_
  refine CW.seq fun K13 hK13 => ?_
  refine CW.quiet (fun wq => Ext w1 wq) (by kernel_rfl) (by kernel_rfl) Chg.drew ?_
  obtain ⟨p, hp⟩ : ∃ p, ps[x]? = some p := ⟨_, List.getElem?_eq_getElem (by omega)⟩
  obtain ⟨q, hq0⟩ : ∃ q, ps[x - 1]? = some q := ⟨_, List.getElem?_eq_getElem (by omega)⟩
  obtain ⟨b, rfl, hmp⟩ := hpy0.at hp
  obtain ⟨b2, hb2, hmq⟩ := hpy0.at hq0
  cases hb2
  refine QL.m rfl ?_
  refine QL.m rfl ?_
  refine QL.v (fun wq hq => Y.subN (q := 1) rfl rfl (by omega) (by omega)) ?_
  refine QL.v (fun wq hq => Y.indexAddrN Tryz.underlying24 rfl rfl sz0_apiDigest (by omega)) ?_
  refine QL.v (fun wq hq => Y.load Tryz.underlying43 rfl ((hmq.ext hE).ext hq) (sz_apiDigest _) rfl) ?_
  refine QL.m rfl ?_
  refine QL.m rfl ?_
  refine QL.v (fun wq hq => Y.indexAddrN Tryz.underlying24 rfl rfl sz0_apiDigest (by omega)) ?_
  refine QL.v (fun wq hq => Y.load Tryz.underlying43 rfl ((hmp.ext hE).ext hq) (sz_apiDigest _) rfl) ?_
  refine QL.call Tryz.func64 rfl rfl rfl (fun wq hq => ret_ext (rLess_any _ _ _) hq) (by simp) ?_
  refine QL.v (fun wq hq => Y.not rfl) ?_
  refine QL.nil fun w2 hx2 => ?_
  have hz2 := hx2.size
  have hE := hE.thenExt hx2
  refine hK13 _ _ ?_; try clear hK13 K13
  (first | refine CW.condD rfl ?_ ?_ | refine CW.condND rfl ?_ ?_ | refine CW.condN rfl ?_ ?_ | refine CW.cond rfl ?_ ?_) <;> intro ht14
  ·
   -- then
   refine CW.sr fun K15 hK15 => ?_
   refine WL.a rfl ?_
   refine WL.nil (hK15 _ _ ?_); try clear hK15 K15
   refine CW.ret ⟨_, rfl, ?_⟩
   exact ⟨by rw [wrongE, if_neg (by show ¬ 8 < ps.length; omega), if_pos (risB_not hq0 (by rw [Nat.sub_add_cancel (by omega)]; exact hp) (by first | assumption | simp_all))], hE⟩
  refine CW.skip ?_
  refine hK12 _ _ ?_; try clear hK12 K12
  refine CW.region ?_
  refine WL.m rfl ?_
  refine WL.v (Y.add rfl rfl ⟨by omega, by omega⟩) ?_
  refine WL.a rfl ?_
  refine WL.nil ?_
  refine ⟨x + 1, by show ps.length - (x + 1) < ps.length - x; omega, Fr.ok, by omega, .inl (by show x + 1 ≤ ps.length; omega), ?_, hE⟩
  intro i a2 b2 hi h1 h2
  by_cases e : i + 1 < x
  ·
   exact hris i a2 b2 e h1 h2
  ·
   have e2 : i = x - 1 := by omega
   subst e2
   rw [Nat.sub_add_cancel (by omega), hp] at h2
   rw [hq0] at h1
   cases h1; cases h2
   first | assumption | simp_all
 refine CW.exit ?_
 refine hK7 _ _ ?_; try clear hK7 K7
 refine CW.seq fun K16 hK16 => ?_
 refine CW.seq fun K17 hK17 => ?_
 refine CW.quiet (fun wq => Ext w1 wq) (by kernel_rfl) (by kernel_rfl) Chg.drew ?_
 have hrisT : risB ps = true := risB_at fun i a b h1 h2 => hris i a b (by have := (List.getElem?_eq_some_iff.1 h2).1; omega) h1 h2
 refine QL.m rfl ?_
 refine QL.m rfl ?_
 refine QL.v (fun wq hq => Y.slice_hi Tryz.underlying37 rfl rfl sz0_apiNode rfl (by omega)) ?_
 refine QL.m rfl ?_
 refine QL.m rfl ?_
 refine QL.v (fun wq hq => Y.indexAddrN Tryz.underlying37 rfl rfl sz0_apiNode (by omega)) ?_
 refine QL.v (fun wq hq => Y.fieldAddr fo_apiNode0 rfl) ?_
 refine QL.v (fun wq hq => Y.load Tryz.underlying43 rfl ((hma.ext hE).ext hq).node0 (sz_apiDigest _) rfl) ?_
 refine QL.call Tryz.func41 rfl rfl rfl (fun wq hq => ret_ext (rFind_any _ _ id _ (((Nds.take hl0 (by omega)).ext hE).ext hq)) hq) (by simp) ?_
 refine QL.v (fun wq hq => Y.geq rfl rfl) ?_
 refine QL.nil fun w3 hx3 => ?_
 have hz3 := hx3.size
 have hE := hE.thenExt hx3
 refine hK17 _ _ ?_; try clear hK17 K17
 (first | refine CW.condD rfl ?_ ?_ | refine CW.condND rfl ?_ ?_ | refine CW.condN rfl ?_ ?_ | refine CW.cond rfl ?_ ?_) <;> intro ht18
 ·
  -- then
  refine CW.sr fun K19 hK19 => ?_
  refine WL.a rfl ?_
  refine WL.nil (hK19 _ _ ?_); try clear hK19 K19
  refine CW.ret ⟨_, rfl, ?_⟩
  have h9 : 0 ≤ findI (idsL (ndsL (l.take k))) id := by assumption
  rw [htk] at h9
  exact ⟨by rw [wrongE, if_neg (by show ¬ 8 < ps.length; omega), if_neg (by show ¬ risB ps = false; rw [hrisT]; decide), if_pos (Decidable.not_not.1 fun h => by have h8 : findI (idsL ((ndsL l).take k)) id < 0 := findI_neg.2 h; omega)], hE⟩
 refine CW.skip ?_
 refine hK16 _ _ ?_; try clear hK16 K16
 refine CW.seq fun K20 hK20 => ?_
 refine CW.sr fun K21 hK21 => ?_
 refine WL.a rfl ?_
 refine WL.nil (hK21 _ _ ?_); try clear hK21 K21
 refine CW.block ?_
 refine CW.loop (X := Nat) (fun x => [(0, .slice (some a) m c), (1, .int .i64 (k : Int)), (5, .slice Ay ps.length cy), (7, .int .i64 (x : Int))]) (fun x w0 => x ≤ ps.length ∧ (∀ i p, i < x → ps[i]? = some p → p ∈ idsL ((ndsL l).take k)) ∧ Ext w w0) (fun x => ps.length - x) 0 Fr.ok ⟨Nat.zero_le _, (fun i a h => by omega), hE⟩ ?_
 intro x w4 hl4
 have hnid : ¬ id ∈ idsL ((ndsL l).take k) := by
  have h9 : ¬ 0 ≤ findI (idsL (ndsL (l.take k))) id := by assumption
  rw [htk] at h9
  exact findI_neg.1 (by omega)
 obtain ⟨hxl, hin, hE⟩ := hl4
 refine CW.seq fun K22 hK22 => ?_
 refine CW.sr fun K23 hK23 => ?_
 refine WL.m rfl ?_
 refine WL.m rfl ?_
 refine WL.v (Y.len_slice Tryz.underlying24 rfl) ?_
 refine WL.v (Y.lss rfl rfl) ?_
 refine WL.nil (hK23 _ _ ?_); try clear hK23 K23
 (first | refine CW.condD rfl ?_ ?_ | refine CW.condND rfl ?_ ?_ | refine CW.condN rfl ?_ ?_ | refine CW.cond rfl ?_ ?_) <;> intro ht24
 ·
  -- then
  refine CW.skip ?_
  refine hK22 _ _ ?_; try clear hK22 K22
  refine CW.seq fun K25 hK25 => ?_
  refine CW.block ?_
  refine CW.seq fun K26 hK26 => ?_
  refine CW.quiet (fun wq => Ext w4 wq) (by kernel_rfl) (by kernel_rfl) Chg.drew ?_
  obtain ⟨p, hp⟩ : ∃ p, ps[x]? = some p := ⟨_, List.getElem?_eq_getElem (by omega)⟩
  obtain ⟨b, rfl, hmp⟩ := hpy0.at hp
  refine QL.m rfl ?_
  refine QL.m rfl ?_
  refine QL.v (fun wq hq => Y.slice_hi Tryz.underlying37 rfl rfl sz0_apiNode rfl (by omega)) ?_
  refine QL.m rfl ?_
  refine QL.m rfl ?_
  refine QL.v (fun wq hq => Y.indexAddrN Tryz.underlying24 rfl rfl sz0_apiDigest (by omega)) ?_
  refine QL.v (fun wq hq => Y.load Tryz.underlying43 rfl ((hmp.ext hE).ext hq) (sz_apiDigest _) rfl) ?_
  refine QL.call Tryz.func41 rfl rfl rfl (fun wq hq => ret_ext (rFind_any _ _ p _ (((Nds.take hl0 (by omega)).ext hE).ext hq)) hq) (by simp) ?_
  refine QL.v (fun wq hq => Y.lss rfl rfl) ?_
  refine QL.nil fun w5 hx5 => ?_
  have hz5 := hx5.size
  have hE := hE.thenExt hx5
  refine hK26 _ _ ?_; try clear hK26 K26
  (first | refine CW.condD rfl ?_ ?_ | refine CW.condND rfl ?_ ?_ | refine CW.condN rfl ?_ ?_ | refine CW.cond rfl ?_ ?_) <;> intro ht27
  ·
   -- then
   refine CW.sr fun K28 hK28 => ?_
   refine WL.a rfl ?_
   refine WL.nil (hK28 _ _ ?_); try clear hK28 K28
   refine CW.ret ⟨_, rfl, ?_⟩
   have h9 : findI (idsL (ndsL (l.take k))) p < 0 := by assumption
   rw [htk] at h9
   exact ⟨by rw [wrongE, if_neg (by show ¬ 8 < ps.length; omega), if_neg (by show ¬ risB ps = false; rw [hrisT]; decide), if_neg hnid, if_pos ⟨p, List.mem_of_getElem? hp, findI_neg.1 h9⟩], hE⟩
  refine CW.skip ?_
  refine hK25 _ _ ?_; try clear hK25 K25
  refine CW.region ?_
  refine WL.m rfl ?_
  refine WL.v (Y.add rfl rfl ⟨by omega, by omega⟩) ?_
  refine WL.a rfl ?_
  refine WL.nil ?_
  refine ⟨x + 1, by show ps.length - (x + 1) < ps.length - x; omega, Fr.ok, by show x + 1 ≤ ps.length; omega, ?_, hE⟩
  intro i a2 hi h1
  by_cases e : i < x
  ·
   exact hin i a2 e h1
  ·
   have e2 : i = x := by omega
   subst e2
   rw [hp] at h1; cases h1
   have h9 : ¬ findI (idsL (ndsL (l.take k))) p < 0 := by assumption
   rw [htk] at h9
   exact Decidable.not_not.1 fun h => h9 (findI_neg.2 h)
 refine CW.exit ?_
 refine hK20 _ _ ?_; try clear hK20 K20
 refine CW.sr fun K29 hK29 => ?_
 refine WL.a rfl ?_
 refine WL.nil (hK29 _ _ ?_); try clear hK29 K29
 refine CW.ret ⟨_, rfl, ?_⟩
 exact ⟨by rw [wrongE, if_neg (by show ¬ 8 < ps.length; omega), if_neg (by show ¬ risB ps = false; rw [hrisT]; decide), if_neg hnid, if_neg (by
  rintro ⟨p, hp, hn⟩
  obtain ⟨i, hi⟩ := List.mem_iff_getElem?.1 hp
  have hi : ps[i]? = some p := hi
  exact hn (hin i p (by have := (List.getElem?_eq_some_iff.1 hi).1; omega) hi))], hE⟩
theorem rCheck_any (u : Value) (l : List NdV) (w : World) (hl : Nds w u l) : Calls Tryz.prog 40 #[u] w (Ret fun v w' => v = .tuple #[.int .i64 ((readE (ndsL l)).1 : Int), .int .i64 (readE (ndsL l)).2] ∧ Ext w w') := by
 have hl0 := hl
 obtain ⟨⟨A, m, c, rfl, hlm, hmc, hcm, hlx⟩, hps⟩ := hl
 unfold maxLen at hcm
 have hln : (ndsL l).length = m := by simpa using hlm
 refine calls_of_CW 22 [2, 3] [(0, .slice A m c)] Tryz.func40 rfl rfl rfl (by simp) args1 ?_
 have hE : Ext w w := Chg.refl
 refine CW.sr fun K1 hK1 => ?_
 refine WL.a rfl ?_
 refine WL.a rfl ?_
 refine WL.nil (hK1 _ _ ?_); try clear hK1 K1
 refine CW.seq fun K2 hK2 => ?_
 refine CW.sr fun K3 hK3 => ?_
 refine WL.m rfl ?_
 refine WL.v (Y.len_slice Tryz.underlying37 rfl) ?_
 refine WL.v (Y.gtr rfl rfl) ?_
 refine WL.nil (hK3 _ _ ?_); try clear hK3 K3
 (first | refine CW.condD rfl ?_ ?_ | refine CW.condND rfl ?_ ?_ | refine CW.condN rfl ?_ ?_ | refine CW.cond rfl ?_ ?_) <;> intro ht4
 ·
  -- then
  refine CW.sr fun K5 hK5 => ?_
  refine WL.a rfl ?_
  refine WL.a rfl ?_
  refine WL.nil (hK5 _ _ ?_); try clear hK5 K5
  refine CW.ret ⟨_, rfl, ?_⟩
  have he : readE (ndsL l) = (0, 4) := by rw [readE, if_pos (by omega)]
  exact ⟨by rw [he]; rfl, hE⟩
 refine CW.skip ?_
 refine hK2 _ _ ?_; try clear hK2 K2
 refine CW.seq fun K6 hK6 => ?_
 refine CW.sr fun K7 hK7 => ?_
 refine WL.a rfl ?_
 refine WL.nil (hK7 _ _ ?_); try clear hK7 K7
 refine CW.block ?_
 refine CW.loop (X := Nat) (fun x => [(0, .slice A m c), (4, .int .i64 (x : Int))]) (fun x w0 => x ≤ m ∧ fwrong (ndsL l) [] 0 = fwrong ((ndsL l).drop x) (idsL ((ndsL l).take x)) x ∧ Ext w w0) (fun x => m - x) 0 Fr.ok ⟨Nat.zero_le _, by simp, hE⟩ ?_
 intro x w1 hl1
 have hre : readE (ndsL l) = fwrong (ndsL l) [] 0 := by rw [readE, if_neg (by omega)]
 obtain ⟨hxm, hfw, hE⟩ := hl1
 refine CW.seq fun K8 hK8 => ?_
 refine CW.sr fun K9 hK9 => ?_
 refine WL.m rfl ?_
 refine WL.m rfl ?_
 refine WL.v (Y.len_slice Tryz.underlying37 rfl) ?_
 refine WL.v (Y.lss rfl rfl) ?_
 refine WL.nil (hK9 _ _ ?_); try clear hK9 K9
 (first | refine CW.condD rfl ?_ ?_ | refine CW.condND rfl ?_ ?_ | refine CW.condN rfl ?_ ?_ | refine CW.cond rfl ?_ ?_) <;> intro ht10
 ·
  -- then
  refine CW.skip ?_
  refine hK8 _ _ ?_; try clear hK8 K8
  refine CW.seq fun K11 hK11 => ?_
  refine CW.block ?_
  refine CW.sr fun K12 hK12 => ?_
  obtain ⟨y, hy⟩ : ∃ y, l[x]? = some y := ⟨_, List.getElem?_eq_getElem (by omega)⟩
  have hyn : (ndsL l)[x]? = some y.n := by simp [hy]
  refine WL.m rfl ?_
  refine WL.m rfl ?_
  refine WL.call Tryz.func63 rfl rfl rfl (rwrong7_any _ l x y _ (hl0.ext hE) hy) (by simp) ?_; rintro v w2 ⟨rfl, hx2⟩; have hz2 := hx2.size; have hE := hE.thenExt hx2
  refine WL.a rfl ?_
  refine WL.nil (hK12 _ _ ?_); try clear hK12 K12
  refine CW.sr fun K13 hK13 => ?_
  refine WL.m rfl ?_
  refine WL.v (Y.neq rfl rfl) ?_
  refine WL.nil (hK13 _ _ ?_); try clear hK13 K13
  (first | refine CW.condD rfl ?_ ?_ | refine CW.condND rfl ?_ ?_ | refine CW.condN rfl ?_ ?_ | refine CW.cond rfl ?_ ?_) <;> intro ht14
  ·
   -- then
   refine CW.sr fun K15 hK15 => ?_
   refine WL.m rfl ?_
   refine WL.m rfl ?_
   refine WL.a rfl ?_
   refine WL.a rfl ?_
   refine WL.nil (hK15 _ _ ?_); try clear hK15 K15
   refine CW.ret ⟨_, rfl, ?_⟩
   exact ⟨by rw [hre, hfw, fwrong_stop hyn (by assumption)], hE⟩
  refine CW.skip ?_
  refine hK11 _ _ ?_; try clear hK11 K11
  refine CW.region ?_
  refine WL.m rfl ?_
  refine WL.v (Y.add rfl rfl ⟨by omega, by omega⟩) ?_
  refine WL.a rfl ?_
  refine WL.nil ?_
  refine ⟨x + 1, by show m - (x + 1) < m - x; omega, Fr.ok, by show x + 1 ≤ m; omega, hfw.trans (fwrong_step hyn (Decidable.not_not.1 (by assumption))), hE⟩
 refine CW.exit ?_
 refine hK6 _ _ ?_; try clear hK6 K6
 refine CW.sr fun K16 hK16 => ?_
 refine WL.a rfl ?_
 refine WL.a rfl ?_
 refine WL.nil (hK16 _ _ ?_); try clear hK16 K16
 refine CW.ret ⟨_, rfl, ?_⟩
 have e1 : (ndsL l).drop x = [] := List.drop_of_length_le (by omega)
 exact ⟨by rw [hre, hfw, e1]; rfl, hE⟩
theorem rWrong_any (u v0 : Value) (l : List NdV) (ids : List Dig) (w : World) (hl : Nds w u l) (hd : Sl w digC 32 v0 ids) : Calls Tryz.prog 22 #[u, v0] w (Ret fun v w' => v = .int .i64 (wrongQ (ndsL l) ids) ∧ Ext w w') := by
 have hl0 := hl
 obtain ⟨⟨A, m, c, rfl, hlm, hmc, hcm, hlx⟩, hps⟩ := hl
 unfold maxLen at hcm
 have hd0 := hd
 obtain ⟨A1, m1, c1, rfl, hdm, hdc, hdx, hdg⟩ := hd
 unfold maxLen at hdx
 refine calls_of_CW 29 [4] [(0, .slice A m c), (1, .slice A1 m1 c1)] Tryz.func22 rfl rfl rfl (by simp) args2 ?_
 have hE : Ext w w := Chg.refl
 refine CW.sr fun K1 hK1 => ?_
 refine WL.a rfl ?_
 refine WL.nil (hK1 _ _ ?_); try clear hK1 K1
 refine CW.sr fun K2 hK2 => ?_
 refine WL.m rfl ?_
 refine WL.call Tryz.func40 rfl rfl rfl (rCheck_any _ l _ hl0) (by simp) ?_; rintro v w1 ⟨rfl, hx1⟩; have hz1 := hx1.size; have hE := hE.thenExt hx1
 refine WL.m rfl ?_
 refine WL.v (Y.extract rfl rfl) ?_
 refine WL.v (Y.extract rfl rfl) ?_
 refine WL.a rfl ?_
 refine WL.a rfl ?_
 refine WL.nil (hK2 _ _ ?_); try clear hK2 K2
 refine CW.seq fun K3 hK3 => ?_
 refine CW.sr fun K4 hK4 => ?_
 refine WL.m rfl ?_
 refine WL.v (Y.neq rfl rfl) ?_
 refine WL.nil (hK4 _ _ ?_); try clear hK4 K4
 (first | refine CW.condD rfl ?_ ?_ | refine CW.condND rfl ?_ ?_ | refine CW.condN rfl ?_ ?_ | refine CW.cond rfl ?_ ?_) <;> intro ht5
 ·
  -- then
  refine CW.sr fun K6 hK6 => ?_
  refine WL.m rfl ?_
  refine WL.a rfl ?_
  refine WL.nil (hK6 _ _ ?_); try clear hK6 K6
  refine CW.ret ⟨_, rfl, ?_⟩
  exact ⟨by rw [wrongQ, if_pos (by assumption)]; rfl, hE⟩
 refine CW.skip ?_
 refine hK3 _ _ ?_; try clear hK3 K3
 refine CW.seq fun K7 hK7 => ?_
 refine CW.sr fun K8 hK8 => ?_
 refine WL.a rfl ?_
 refine WL.nil (hK8 _ _ ?_); try clear hK8 K8
 refine CW.block ?_
 refine CW.loop (X := Nat) (fun x => [(0, .slice A m c), (1, .slice A1 m1 c1), (7, .int .i64 (x : Int))]) (fun x w0 => x ≤ m1 ∧ (∀ i d, i < x → ids[i]? = some d → d ∈ idsL (ndsL l)) ∧ Ext w w0) (fun x => m1 - x) 0 Fr.ok ⟨Nat.zero_le _, (fun i a h => by omega), hE⟩ ?_
 intro x w2 hl2
 obtain ⟨hxl, hin, hE⟩ := hl2
 refine CW.seq fun K9 hK9 => ?_
 refine CW.sr fun K10 hK10 => ?_
 refine WL.m rfl ?_
 refine WL.m rfl ?_
 refine WL.v (Y.len_slice Tryz.underlying24 rfl) ?_
 refine WL.v (Y.lss rfl rfl) ?_
 refine WL.nil (hK10 _ _ ?_); try clear hK10 K10
 (first | refine CW.condD rfl ?_ ?_ | refine CW.condND rfl ?_ ?_ | refine CW.condN rfl ?_ ?_ | refine CW.cond rfl ?_ ?_) <;> intro ht11
 ·
  -- then
  refine CW.skip ?_
  refine hK9 _ _ ?_; try clear hK9 K9
  refine CW.seq fun K12 hK12 => ?_
  refine CW.block ?_
  refine CW.sr fun K13 hK13 => ?_
  obtain ⟨d, hd⟩ : ∃ d, ids[x]? = some d := ⟨_, List.getElem?_eq_getElem (by omega)⟩
  obtain ⟨a, rfl, hma⟩ := hdg _ _ hd
  refine WL.m rfl ?_
  refine WL.m rfl ?_
  refine WL.m rfl ?_
  refine WL.v (Y.indexAddrN Tryz.underlying24 rfl rfl sz0_apiDigest (by omega)) ?_
  refine WL.v (Y.load Tryz.underlying43 rfl (hma.ext hE) (sz_apiDigest _) rfl) ?_
  refine WL.call Tryz.func41 rfl rfl rfl (rFind_any _ l d _ (hl0.ext hE)) (by simp) ?_; rintro v w3 ⟨rfl, hx3⟩; have hz3 := hx3.size; have hE := hE.thenExt hx3
  refine WL.v (Y.lss rfl rfl) ?_
  refine WL.nil (hK13 _ _ ?_); try clear hK13 K13
  (first | refine CW.condD rfl ?_ ?_ | refine CW.condND rfl ?_ ?_ | refine CW.condN rfl ?_ ?_ | refine CW.cond rfl ?_ ?_) <;> intro ht14
  ·
   -- then
   refine CW.sr fun K15 hK15 => ?_
   refine WL.a rfl ?_
   refine WL.nil (hK15 _ _ ?_); try clear hK15 K15
   refine CW.ret ⟨_, rfl, ?_⟩
   exact ⟨by rw [wrongQ, if_neg (by assumption), if_pos ⟨d, List.mem_of_getElem? hd, findI_neg.1 (by assumption)⟩], hE⟩
  refine CW.skip ?_
  refine hK12 _ _ ?_; try clear hK12 K12
  refine CW.region ?_
  refine WL.m rfl ?_
  refine WL.v (Y.add rfl rfl ⟨by omega, by omega⟩) ?_
  refine WL.a rfl ?_
  refine WL.nil ?_
  refine ⟨x + 1, by show m1 - (x + 1) < m1 - x; omega, Fr.ok, by show x + 1 ≤ m1; omega, ?_, hE⟩
  intro i a2 hi h1
  by_cases e : i < x
  ·
   exact hin i a2 e h1
  ·
   have e2 : i = x := by omega
   subst e2
   rw [hd] at h1; cases h1
   have h9 : ¬ findI (idsL (ndsL l)) d < 0 := by assumption
   exact Decidable.not_not.1 fun h => h9 (findI_neg.2 h)
 refine CW.exit ?_
 refine hK7 _ _ ?_; try clear hK7 K7
 refine CW.sr fun K16 hK16 => ?_
 refine WL.a rfl ?_
 refine WL.nil (hK16 _ _ ?_); try clear hK16 K16
 refine CW.ret ⟨_, rfl, ?_⟩
 exact ⟨by rw [wrongQ, if_neg (by assumption), if_neg (by
  rintro ⟨d, hd, hn⟩
  obtain ⟨i, hi⟩ := List.mem_iff_getElem?.1 hd
  exact hn (hin i d (by have := (List.getElem?_eq_some_iff.1 hi).1; omega) hi))], hE⟩
end Go.Proofs.YtjbeooimhoilmaaGreatDoor
/- Slices of bools of our own: made, read, written, cleared. No condition. -/
namespace Go.Fw
open Go.RowKit
def boolC (S : List Bool) : List Value := S.map Value.bool
theorem boolC_length (S : List Bool) : (boolC S).length = S.length := by simp [boolC]
theorem boolC_split {S : List Bool} {i : Nat} {c : Bool} (v : Bool) (h : S[i]? = some c) : boolC S = boolC (S.take i) ++ [.bool c] ++ boolC (S.drop (i + 1)) ∧ boolC (S.set i v) = boolC (S.take i) ++ [.bool v] ++ boolC (S.drop (i + 1)) := by
 obtain ⟨hlt, hc⟩ := List.getElem?_eq_some_iff.1 h
 have e1 : S = S.take i ++ [c] ++ S.drop (i + 1) := by
  conv => lhs; rw [← List.take_append_drop i S, List.drop_eq_getElem_cons hlt, hc]
  simp
 have e2 : S.set i v = S.take i ++ [v] ++ S.drop (i + 1) := by
  rw [List.set_eq_take_append_cons_drop, if_pos hlt]
  simp
 constructor
 ·
  conv => lhs; rw [e1]
  simp [boolC]
 ·
  rw [e2]; simp [boolC]
section
variable {P : Program} {n : NN} {Φ : Exit → Fr → World → Prop} {fr : Fr} {w : World} {ty : TypeId} {e : TypeId} {b : Nat} {S : List Bool}
theorem Blk.bcell (h : Blk w b e (boolC S)) {i : Nat} {v : Bool} (hi : S[i]? = some v) : w.cell? ((⟨b, 0, none⟩ : Addr).add (i * 1)) = some (.bool v) := by
 rw [Nat.mul_one]
 exact h.mem.cell i (by rw [boolC, List.getElem?_map, hi]; rfl)
theorem WL.storeB {ops : Array Oper} {rest : List Oper} {t : TypeId} {x y : Operand} {pos : String} {aft : Array Edge} {v c : Bool} {i : Nat} {A : Addr}
  (hx : ev fr x = some (.pointer (some A))) (hA : A = (⟨b, 0, none⟩ : Addr).add (i * 1)) (hy : ev fr y = some (.bool v)) (hS : (P.info? t).map (·.size) = some 1) (hB : Blk w b e (boolC S)) (hi : S[i]? = some c)
  (h : ∀ w', Chg (· = b) w w' → Blk w' b e (boolC (S.set i v)) → WL P ops n Φ rest fr w') : WL P ops n Φ (⟨none, .store t x y, ty, pos, aft, none⟩ :: rest) fr w := by
 obtain ⟨e1, e2⟩ := boolC_split v hi
 have hlt := (List.getElem?_eq_some_iff.1 hi).1
 refine WL.store (g := b) (pre := boolC (S.take i)) (old := [.bool c]) (post := boolC (S.drop (i + 1))) (new := [.bool v]) hx ?_ hy rfl hS (e1 ▸ hB) rfl (one1 rfl) fun w' hc hB' => ?_
 ·
  rw [hA, Nat.mul_one, add_zero', boolC_length, List.length_take, Nat.min_eq_left (by omega)]
 ·
  exact h w' hc (e2 ▸ hB')
theorem St.makeB {t : TypeId} {x y : Operand} {k k' : IntKind} {m : Nat} {i : TypeInfo} (hT : P.underlying t = some (.slice e)) (hi : P.info? e = some i) (hz : i.zero = some (.bool false)) (h1 : i.size = 1) (hb : i.bytes = 1)
  (hx : ev fr x = some (.int k (m : Int))) (hy : ev fr y = some (.int k' (m : Int))) (hm : m ≤ 281474976710656) :
  St P n fr (.makeSlice t x y) ty w (fun v w' => ∃ g, v = .slice (some ⟨g, 0, none⟩) m m ∧ w.heap.size ≤ g ∧ Blk w' g e (boolC (List.replicate m false)) ∧ Ext w w') := fun a o' ho hty ha => by
 have hr := run_make (P := P) w t e i (.bool false) hT hi hz k k' (m : Int) (m : Int) (by omega) (Int.le_refl _) (by rw [hb]; omega) (by omega)
 simp only [Int.toNat_natCast, h1, Nat.mul_one] at hr
 refine ⟨_, w.alloc (.cells (madeCells (Value.bool false).cells m) e), ?_, w.heap.size, rfl, Nat.le_refl _, ?_, Chg.alloc _⟩
 ·
  simp only [execOp, ho, ha.ev hx, ha.ev hy, Sem.run_bind]
  rw [hr]; rfl
 ·
  have e0 : madeCells (Value.bool false).cells m = (boolC (List.replicate m false)).toArray := by
   unfold madeCells
   apply Array.ext_getElem?
   intro j
   simp only [boolC, List.map_replicate, List.getElem?_toArray, Array.getElem?_map, List.getElem?_replicate]
   have hc : (Value.bool false).cells = #[.bool false] := rfl
   rw [hc]
   by_cases hj : j < m
   ·
    simp [hj, Array.getElem?_range, Nat.mod_one]
   ·
    simp [hj, Array.getElem?_range]
  rw [e0]
  exact Blk.new w e _
theorem WL.callV {ops : Array Oper} {rest : List Oper} {dst : Option Nat} {t : Nat} {f : FuncId} {args : List Operand} {tys : Array TypeId} {pos : String} {aft : Array Edge} {vs cap : List Value} {fn : Func}
  {R : Value → World → Prop} (ht : fr.get t = some (.func (.func f) #[] cap.toArray))
  (hf : P.funcs[f]? = some fn) (hb : fn.body.isNone = false) (hn : (fn.name == "runtime.NumGoroutine") = false)
  (he : evs fr args = some vs) (hC : Calls P f (vs ++ cap).toArray w (Ret R)) (hd : ∀ d, dst = some d → d < n.1)
  (h : ∀ v w', R v w' → WL P ops n Φ rest (match dst with | some d => (d, v) :: fr | none => fr) w') :
  WL P ops n Φ (⟨dst, .call { callee := .value (.tmp t), args := args.toArray, argTypes := tys }, ty, pos, aft, none⟩ :: rest) fr w := fun a ha =>
 wpList_plain rfl fun K hK => by
  have hrun : (execOp a.eval ⟨dst, .call { callee := .value (.tmp t), args := args.toArray, argTypes := tys }, ty, pos, aft, none⟩).run P w = .ok (.enter f (vs ++ cap).toArray) w := by
   have h1 := ha.evs he
   have h2 : a.eval (.tmp t) = .func (.func f) #[] cap.toArray := ha.ev (x := .tmp t) ht
   simp [execOp, resolve, invoke, Deferred.ofValue, h2, h1, run_callFunc hf hb hn]
  unfold Oper.wp
  rw [hrun]
  refine hC.mono fun e w' hr => ?_
  cases e with
  | returned v =>
   refine hK _ _ (h v w' hr _ ?_)
   cases dst with
   | none => exact ha
   | some d => exact ha.put (hd d rfl) v
  | panicked ch => exact hr.elim
  | outgrown => exact hr.elim
end
end Go.Fw
/- Ranges over functions: regions with a call of yield, what an iterator promises, the statement, a function that holds one. No condition; no program. -/
namespace Go.Fw
open Go.RowKit
def HL (P : Program) (ops : Array Oper) (w : World) (n : NN) (Ψ : Fr → Prop) (l : List Oper) (fr : Fr) : Prop :=
 ∀ a, Rep n a fr → wpStill P ops w (fun a' => ∃ f, Rep n a' f ∧ Ψ f) l a
def WI (P : Program) (ops : Array Oper) (n : NN) (Φ : Exit → Fr → World → Prop) (l : List Oper) (fr : Fr) (w : World) : Prop :=
 ∀ a, Rep n a fr → wpListIn (FX n.2.2) 0 P ops (lift n Φ) l a w
section
variable {P : Program} {n : NN} {Φ : Exit → Fr → World → Prop} {fr : Fr} {w : World} {ops : Array Oper} {rest : List Oper} {Ψ : Fr → Prop}
theorem HL.nil (h : Ψ fr) : HL P ops w n Ψ [] fr := fun _ ha => ⟨fr, ha, h⟩
theorem HL.val {d : Nat} {o : Op} {ty : TypeId} {pos : String} {aft : Array Edge} {v : Value} (hy : Yw P n fr o ty w v w) (hd : d < n.1) (h : HL P ops w n Ψ rest ((d, v) :: fr)) :
  HL P ops w n Ψ (⟨some d, o, ty, pos, aft, none⟩ :: rest) fr := fun a ha =>
 wpStill_step fun K hK => by
  rw [if_pos (by simp [Region.wanted])]
  unfold Oper.still
  rw [hy a _ rfl rfl ha]
  exact ⟨rfl, hK _ (h _ (ha.put hd v))⟩
theorem HL.gval {d j dj : Nat} {b : Bool} {o : Op} {ty : TypeId} {pos : String} {aft : Array Edge} {v : Value}
  (hj : (ops[j]?).bind (·.dst) = some dj) (hg : fr.get dj = some (.bool b)) (hy : Yw P n fr o ty w v w) (hd : d < n.1) (h : HL P ops w n Ψ rest ((d, v) :: fr)) :
  HL P ops w n Ψ (⟨some d, o, ty, pos, aft, some (j, b)⟩ :: rest) fr := fun a ha =>
 wpStill_step fun K hK => by
  rw [if_pos (by simp [Region.wanted, yielded_eq ha hj hg])]
  unfold Oper.still
  rw [hy a _ rfl rfl ha]
  exact ⟨rfl, hK _ (h _ (ha.put hd v))⟩
theorem HL.goff {d j dj : Nat} {b : Bool} {o : Op} {ty : TypeId} {pos : String} {aft : Array Edge}
  (hj : (ops[j]?).bind (·.dst) = some dj) (hg : fr.get dj = some (.bool (!b))) (hd : d < n.1) (h : HL P ops w n Ψ rest ((d, undef) :: fr)) :
  HL P ops w n Ψ (⟨some d, o, ty, pos, aft, some (j, b)⟩ :: rest) fr := fun a ha =>
 wpStill_step fun K hK => by
  rw [if_neg (by simp [Region.wanted, yielded_eq ha hj hg])]
  exact hK _ (h _ (ha.put hd undef))
theorem HL.goffU {d j dj : Nat} {b : Bool} {o : Op} {ty : TypeId} {pos : String} {aft : Array Edge}
  (hj : (ops[j]?).bind (·.dst) = some dj) (hg : fr.get dj = some undef) (hd : d < n.1) (h : HL P ops w n Ψ rest ((d, undef) :: fr)) :
  HL P ops w n Ψ (⟨some d, o, ty, pos, aft, some (j, b)⟩ :: rest) fr := fun a ha =>
 wpStill_step fun K hK => by
  rw [if_neg (by simp [Region.wanted, yielded_undef ha hj hg])]
  exact hK _ (h _ (ha.put hd undef))
theorem HL.cases {l : List Oper} {d : Nat} {c : Bool} (hg : fr.get d = some (.bool c))
  (ht : c = true → HL P ops w n Ψ l ((d, .bool true) :: fr)) (hf : c = false → HL P ops w n Ψ l ((d, .bool false) :: fr)) : HL P ops w n Ψ l fr := by
 intro a ha
 cases c with
 | true => exact ht rfl a (ha.weaken (Fr.le.cons hg Fr.le.refl))
 | false => exact hf rfl a (ha.weaken (Fr.le.cons hg Fr.le.refl))
theorem HL.casesD {l : List Oper} {d : Nat} {p : Prop} {inst : Decidable p} (hg : fr.get d = some (.bool (@decide p inst)))
  (ht : p → HL P ops w n Ψ l ((d, .bool true) :: fr)) (hf : ¬ p → HL P ops w n Ψ l ((d, .bool false) :: fr)) : HL P ops w n Ψ l fr :=
 HL.cases hg (fun h => ht (@of_decide_eq_true p inst h)) (fun h => hf (@of_decide_eq_false p inst h))
theorem HL.casesND {l : List Oper} {d : Nat} {p : Prop} {inst : Decidable p} (hg : fr.get d = some (.bool (!@decide p inst)))
  (ht : ¬ p → HL P ops w n Ψ l ((d, .bool true) :: fr)) (hf : p → HL P ops w n Ψ l ((d, .bool false) :: fr)) : HL P ops w n Ψ l fr :=
 HL.cases hg (fun h => ht (@of_decide_eq_false p inst (by simpa using h))) (fun h => hf (@of_decide_eq_true p inst (by simpa using h)))
theorem WI.nil (h : Φ .normal fr w) : WI P ops n Φ [] fr w := fun _ ha => wpListIn_nil ⟨fr, ha, h⟩
theorem WI.val {d : Nat} {o : Op} {ty : TypeId} {pos : String} {aft : Array Edge} {v : Value} {w' : World}
  (hy : Yw P n fr o ty w v w') (hd : d < n.1) (h : WI P ops n Φ rest ((d, v) :: fr) w') (hnd : ∀ c, o ≠ .defer c := by intro c h; cases h) : WI P ops n Φ (⟨some d, o, ty, pos, aft, none⟩ :: rest) fr w := fun a ha => by
 unfold wpListIn
 rw [if_pos (by simp [Region.wanted])]
 refine wpIn_of_wp hnd ?_
 unfold Oper.wp
 rw [hy a _ rfl rfl ha]
 exact h _ (ha.put hd v)
theorem CW.head {id : Nat} {l : List Oper} (k : Nat) (hm : P.follows .mixedOrders = true) (hB : Region.lexTailB .any l.toArray k = true)
  (h : ∀ w', Ext w w' → HL P l.toArray w' n (fun f => WL P l.toArray n Φ (l.drop k) f w') (l.take k) fr) (hR : Tame n l Φ := by first | exact .inl rfl | exact .inr ⟨rfl, fun _ _ h => h⟩) : CW P (.region id l.toArray true) n Φ fr w := fun a ha => by
 have h := h w.drew Chg.drew a ha
 simp only [Region.lexTailB, Bool.and_eq_true, decide_eq_true_eq] at hB
 obtain ⟨⟨⟨⟨hsel, hn⟩, hs⟩, hc⟩, hlex⟩ := hB
 have hn' : k < l.length := by simpa using hn
 have htl : (l.take k).length = k := by simp; omega
 have hdl : (l.drop k).length = l.toArray.size - k := by simp
 have inv0 : HeadInv .any l.toArray k (Array.replicate l.toArray.size false) :=
  ⟨by simp, fun j oj _ hl => (by rw [getD_replicate_false] at hl; cases hl), fun t _ ht => getD_in (by simpa using ht) (getD_replicate_false _ _)⟩
 have H := wpAnyL_lex (md := .any) (g := l.toArray.size - k) hsel hs hc hn (l.take k) 0 _ a (fun j hj => by
  have hj' : j < k := by rw [htl] at hj; exact hj
  simp [hj']) (by simpa using htl) inv0 (by rw [htl]; exact hlex) h
 refine region_any hR hm ?_
 have := wpAny_of_head (Q' := lift n Φ) (g := l.toArray.size - k) (fun listed a' hL => by
  obtain ⟨f, hf, hW⟩ := hL.2
  have := wpAny_of_seq (md := .any) (Q' := lift n Φ) (l.drop k) k listed a' w.drew (fun j => by simp [List.getElem?_drop]) (by rw [hdl]; exact hL.1) (hW a' hf)
  rwa [hdl] at this) _ _ _ H
 rw [htl, show k + (l.toArray.size - k) = l.toArray.size by omega] at this
 exact this
end
def liftN (m : Nat) (rd : Option Nat) (Φ : Exit → List Deferred → Fr → World → Prop) : Exit → Act → World → Prop := fun e a w => ∃ ds fr, Rep (m, ds, rd) a fr ∧ Φ e ds fr w
def CN (P : Program) (c : Code) (m : Nat) (rd : Option Nat) (ds : List Deferred) (Φ : Exit → List Deferred → Fr → World → Prop) (fr : Fr) (w : World) : Prop := ∀ a, Rep (m, ds, rd) a fr → c.wpIn (FX rd) 0 P (liftN m rd Φ) a w
@[reducible] def thenN (K : List Deferred → Fr → World → Prop) (Φ : Exit → List Deferred → Fr → World → Prop) : Exit → List Deferred → Fr → World → Prop
 | .normal, ds, f, w => K ds f w
 | e, ds, f, w => Φ e ds f w
@[reducible] def blockN (id : Nat) (Φ : Exit → List Deferred → Fr → World → Prop) : Exit → List Deferred → Fr → World → Prop
 | .exit id', ds, f, w => if id' = id then Φ .normal ds f w else Φ (.exit id') ds f w
 | e, ds, f, w => Φ e ds f w
section
variable {P : Program} {m : Nat} {rd : Option Nat} {ds : List Deferred} {Φ : Exit → List Deferred → Fr → World → Prop} {fr : Fr} {w : World}
theorem CN.of_CW {c : Code} (h : CW P c (m, ds, rd) (fun e f w => Φ e ds f w) fr w) : CN P c m rd ds Φ fr w := fun a ha => wpIn_mono (h a ha) fun _ _ _ ⟨f, hf, hp⟩ => ⟨ds, f, hf, hp⟩
theorem CN.weaken {c : Code} {g : Fr} (hl : Fr.le g fr) (h : CN P c m rd ds Φ g w) : CN P c m rd ds Φ fr w := fun a ha => h a (ha.weaken hl)
theorem CN.seq {x y : Code} (h : ∀ K : List Deferred → Fr → World → Prop, (∀ ds f w, CN P y m rd ds Φ f w → K ds f w) → CN P x m rd ds (thenN K Φ) fr w) : CN P (.seq x y) m rd ds Φ fr w := by
 intro a ha
 refine wpIn_seq (wpIn_mono (h (fun ds f w => CN P y m rd ds Φ f w) (fun _ _ _ h => h) a ha) ?_)
 rintro e a' w' ⟨ds', f, hf, hp⟩
 cases e <;> first | exact hp a' hf | exact ⟨ds', f, hf, hp⟩
theorem CN.skip (h : Φ .normal ds fr w) : CN P .skip m rd ds Φ fr w := fun _ ha => wpIn_skip ⟨ds, fr, ha, h⟩
theorem CN.ret (h : Φ .ret ds fr w) : CN P .ret m rd ds Φ fr w := fun _ ha => wpIn_ret ⟨ds, fr, ha, h⟩
theorem CN.exit {id : Nat} (h : Φ (.exit id) ds fr w) : CN P (.exit id) m rd ds Φ fr w := fun _ ha => wpIn_exit ⟨ds, fr, ha, h⟩
theorem CN.cond {c : Operand} {x y : Code} {t : Bool} (hc : ev fr c = some (.bool t)) (ht : t = true → CN P x m rd ds Φ fr w) (hf : t = false → CN P y m rd ds Φ fr w) :
  CN P (.cond c x y) m rd ds Φ fr w := fun a ha => wpIn_cond_split (ha.ev hc) (fun h => ht h a ha) (fun h => hf h a ha)
theorem CN.condD {c : Operand} {x y : Code} {p : Prop} {inst : Decidable p} (hc : ev fr c = some (.bool (@decide p inst))) (ht : p → CN P x m rd ds Φ fr w) (hf : ¬ p → CN P y m rd ds Φ fr w) :
  CN P (.cond c x y) m rd ds Φ fr w := CN.cond hc (fun h => ht (@of_decide_eq_true p inst h)) (fun h => hf (@of_decide_eq_false p inst h))
theorem CN.condND {c : Operand} {x y : Code} {p : Prop} {inst : Decidable p} (hc : ev fr c = some (.bool (!@decide p inst))) (ht : ¬ p → CN P x m rd ds Φ fr w) (hf : p → CN P y m rd ds Φ fr w) :
  CN P (.cond c x y) m rd ds Φ fr w := CN.cond hc (fun h => ht (@of_decide_eq_false p inst (by simpa using h))) (fun h => hf (@of_decide_eq_true p inst (by simpa using h)))
theorem CN.condN {c : Operand} {x y : Code} {b : Bool} (hc : ev fr c = some (.bool (!b))) (ht : b = false → CN P x m rd ds Φ fr w) (hf : b = true → CN P y m rd ds Φ fr w) :
  CN P (.cond c x y) m rd ds Φ fr w := CN.cond hc (fun h => ht (by simpa using h)) (fun h => hf (by simpa using h))
theorem CN.block {id : Nat} {c : Code} (h : CN P c m rd ds (blockN id Φ) fr w) : CN P (.block id c) m rd ds Φ fr w := by
 intro a ha
 refine wpIn_block (wpIn_mono (h a ha) ?_)
 rintro e a' w' ⟨ds', f, hf, hp⟩
 cases e with
 | exit id' =>
  simp only [blockN] at hp
  simp only [Exit.inBlock]
  split at hp <;> rename_i hid
  ·
   rw [if_pos hid]; exact ⟨ds', f, hf, hp⟩
  ·
   rw [if_neg hid]; exact ⟨ds', f, hf, hp⟩
 | normal => exact ⟨ds', f, hf, hp⟩
 | goto l => exact ⟨ds', f, hf, hp⟩
 | ret => exact ⟨ds', f, hf, hp⟩
 | panic c => exact ⟨ds', f, hf, hp⟩
 | outgrown => exact ⟨ds', f, hf, hp⟩
theorem CN.seq_to {x y : Code} {X : Type} (g : X → Fr) (W : X → World → Prop)
  (h1 : CW P x (m, ds, rd) (thenF (fun f w' => ∃ u, Fr.le (g u) f ∧ W u w') (fun e f w => Φ e ds f w)) fr w) (h2 : ∀ u w', W u w' → CN P y m rd ds Φ (g u) w') : CN P (.seq x y) m rd ds Φ fr w :=
 CN.seq fun K hK => CN.of_CW (CW.mono h1 fun e f w' hp => by
  cases e with
  | normal => obtain ⟨u, hl, hw⟩ := hp; exact hK _ _ _ (CN.weaken hl (h2 u w' hw))
  | _ => exact hp)
end
theorem CN.seq_testW {P : Program} {m : Nat} {rd : Option Nat} {ds : List Deferred} {Φ : Exit → List Deferred → Fr → World → Prop} {fr : Fr} {w : World} {x y : Code} (W : World → World → Prop) (T : Nat) (Q : Prop)
  (h1 : CW P x (m, ds, rd) (thenF (fun f w' => (∃ b, f.get T = some (.bool b) ∧ (b = true ↔ Q)) ∧ W w w' ∧ Fr.le fr f) (fun e f w => Φ e ds f w)) fr w)
  (h2 : ∀ w', W w w' → CN P y m rd ds Φ ((T, .bool (@decide Q (Classical.propDecidable Q))) :: fr) w') : CN P (.seq x y) m rd ds Φ fr w :=
 CN.seq_to (X := Unit) (fun _ => (T, .bool (@decide Q (Classical.propDecidable Q))) :: fr) (fun _ w' => W w w')
  (CW.mono h1 fun e f w' hp => by
   cases e with
   | normal =>
    obtain ⟨⟨b, hb, hq⟩, hw, hl⟩ := hp
    have hbq : b = @decide Q (Classical.propDecidable Q) := by
     by_cases h : Q
     ·
      rw [hq.2 h, @decide_eq_true Q (Classical.propDecidable Q) h]
     ·
      rw [@decide_eq_false Q (Classical.propDecidable Q) h]
      cases b with
      | true => exact absurd (hq.1 rfl) h
      | false => rfl
    exact ⟨(), Fr.le.cons (by rw [hb, hbq]) hl, hw⟩
   | _ => exact hp)
  (fun u w' hw => h2 w' hw)
theorem CN.seq_testE {P : Program} {m : Nat} {rd : Option Nat} {ds : List Deferred} {Φ : Exit → List Deferred → Fr → World → Prop} {fr : Fr} {w : World} {x y : Code} (T : Nat) (Q : Prop)
  (h1 : CW P x (m, ds, rd) (thenF (fun f w' => (∃ b, f.get T = some (.bool b) ∧ (b = true ↔ Q)) ∧ Ext w w' ∧ Fr.le fr f) (fun e f w => Φ e ds f w)) fr w)
  (h2 : ∀ w', Ext w w' → CN P y m rd ds Φ ((T, .bool (@decide Q (Classical.propDecidable Q))) :: fr) w') : CN P (.seq x y) m rd ds Φ fr w := CN.seq_testW Ext T Q h1 h2
theorem CN.seq_test {P : Program} {m : Nat} {rd : Option Nat} {ds : List Deferred} {Φ : Exit → List Deferred → Fr → World → Prop} {fr : Fr} {w : World} {x y : Code} (T : Nat) (Q : Prop)
  (h1 : CW P x (m, ds, rd) (thenF (fun f w' => (∃ b, f.get T = some (.bool b) ∧ (b = true ↔ Q)) ∧ w' = w ∧ Fr.le fr f) (fun e f w => Φ e ds f w)) fr w)
  (h2 : CN P y m rd ds Φ ((T, .bool (@decide Q (Classical.propDecidable Q))) :: fr) w) : CN P (.seq x y) m rd ds Φ fr w :=
 CN.seq_testW (fun w w' => w' = w) T Q h1 (fun w' hw => by subst hw; exact h2)
theorem Chg.putObj {S : Nat → Prop} {w : World} {r : Nat} (o : Obj) (h : S r) : Chg S w (w.putObj r o) :=
 ⟨rfl, rfl, rfl, by simp, fun k _ hn => World.putObj_heap_other (fun e => hn (e ▸ h)), Nat.le_refl _⟩
abbrev mark (D : Nat) : Deferred := { target := .collected D, args := #[] }
def IterC {σ α : Type} (P : Program) (gf : Nat) (lb : List Value) (w : World) (Setup : World → σ → World → Prop) (xs : σ → List α) (encs : α → List Value) (T0 : Nat → Prop) (Keep : σ → Nat → Nat → Prop) (At : σ → Nat → World → Prop) (Fin : World → Prop) : Prop :=
 ∀ (l : Nat) (w1 : World) (J : σ → Nat → World → Prop) (Jx : World → Prop), Ext w w1 →
  (∀ s V, Chg T0 w1 V → Setup w1 s V → J s 0 V) →
  (∀ s i V V', J s i V → Chg T0 V V' → J s i V') →
  (∀ V V', Jx V → Chg T0 V V' → Jx V') →
  (∀ s i x V, J s i V → (xs s)[i]? = some x → At s i V →
   YieldAt (FX none) 0 P l (encs x).toArray V (fun e V' => ∃ b, e = .returned (.bool b) ∧ ((b = true ∧ J s (i + 1) V' ∧ Chg (fun k => ¬ Keep s i k) V V') ∨ (b = false ∧ Jx V' ∧ Chg (fun k => ¬ Keep s i k) V V')))) →
  Calls P gf (.func (.yield l) #[] #[] :: lb).toArray w1 (Ret fun _ V => ((∃ s, J s (xs s).length V) ∨ Jx V) ∧ Fin V)
def zipF : List Nat → List Value → Fr → Fr
 | p :: ps, v :: vs, f => zipF ps vs ((p, v) :: f)
 | _, _, f => f
theorem Rep.zip {m : Nat} {ds : List Deferred} {rd : Option Nat} : ∀ {ps : List Nat} {vs : List Value} {t : Array Value} {fr : Fr}, (∀ p ∈ ps, p < m) → Rep (m, ds, rd) { tmps := t, defers := ds } fr →
  Rep (m, ds, rd) { tmps := (ps.zip vs).foldl (fun t (p, v) => t.setIfInBounds p v) t, defers := ds } (zipF ps vs fr)
 | [], _, _, _, _, h => by simpa [zipF] using h
 | _ :: _, [], _, _, _, h => by simpa [zipF] using h
 | p :: ps, v :: vs, t, fr, hp, h => by
  have h1 := h.put (hp p (by simp)) v
  have := Rep.zip (ps := ps) (vs := vs) (t := t.setIfInBounds p v) (fr := (p, v) :: fr) (fun q hq => hp q (by simp [hq])) h1
  simpa [zipF] using this
@[reducible] def RoundF (l D : Nat) (Kp : Nat → Prop) (I' : World → Prop) (Ix : Exit → World → Prop) (V2 : World) : Exit → Fr → World → Prop
 | .normal, _, V3 => I' V3 ∧ Chg (fun k => ¬ Kp k ∧ k ≠ l ∧ k ≠ D) V2 V3
 | .ret, _, V3 => Ix .ret V3 ∧ Chg (fun k => ¬ Kp k ∧ k ≠ l ∧ k ≠ D) V2 V3
 | .exit id, _, V3 => Ix (.exit id) V3 ∧ Chg (fun k => ¬ Kp k ∧ k ≠ l ∧ k ≠ D) V2 V3
 | .goto t, _, V3 => Ix (.goto t) V3 ∧ Chg (fun k => ¬ Kp k ∧ k ≠ l ∧ k ≠ D) V2 V3
 | _, _, _ => False
theorem CN.range {P : Program} {m : Nat} {ds : List Deferred} {Φ : Exit → List Deferred → Fr → World → Prop} {fr : Fr} {w : World} {σ α : Type} {g : Operand} {ps : List Nat} {assign body : Code} {gf : Nat} {lb : List Value} {fn : Func}
  {Setup : World → σ → World → Prop} {xs : σ → List α} {encs : α → List Value} {T0 : Nat → Prop} {Keep : σ → Nat → Nat → Prop} {At : σ → Nat → World → Prop} {Fin : World → Prop}
  (hg : ev fr g = some (.func (.func gf) #[] lb.toArray)) (hf : P.funcs[gf]? = some fn) (hb : fn.body.isNone = false) (hn : (fn.name == "runtime.NumGoroutine") = false)
  (hit : IterC P gf lb w Setup xs encs T0 Keep At Fin) (hps : ∀ x, (encs x).length = ps.length) (hpm : ∀ p ∈ ps, p < m)
  (hT0 : ∀ k, T0 k → k < w.heap.size) (hK : ∀ w1 s V, w.heap.size + 2 ≤ w1.heap.size → Setup w1 s V → ∀ i, ¬ Keep s i (w.heap.size + 1))
  (I : σ → Nat → World → Prop) (Ix : σ → Exit → World → Prop)
  (h0 : ∀ w1 s V, Ext w w1 → w.heap.size + 2 ≤ w1.heap.size → Chg T0 w1 V → Setup w1 s V → I s 0 V)
  (hI : ∀ s i V V', I s i V → Chg (fun k => T0 k ∨ k = w.heap.size + 1) V V' → I s i V')
  (hIx : ∀ s e V V', Ix s e V → Chg (fun k => T0 k ∨ k = w.heap.size + 1) V V' → Ix s e V')
  (hround : ∀ s i x V, I s i V → (xs s)[i]? = some x → At s i V → w.heap.size + 2 ≤ V.heap.size →
   CW P assign (m, [], some (w.heap.size + 1)) (thenF (fun f V1 => Ext V V1 ∧ ∀ V2, Chg (fun k => k = w.heap.size + 1) V1 V2 →
    CW P body (m, [], some (w.heap.size + 1)) (RoundF (w.heap.size + 1) w.heap.size (Keep s i) (I s (i + 1)) (Ix s) V2) f V2) (fun _ _ _ => False)) (zipF ps (encs x) fr) V)
  (hdone : ∀ s V, I s (xs s).length V → V.heap[w.heap.size]? = some (.deferred (some [])) → (∃ V0, Fin V0 ∧ Chg (fun k => k = w.heap.size + 1) V0 V) → Φ .normal (mark w.heap.size :: ds) fr V)
  (hleave : ∀ s e V, Ix s e V → V.heap[w.heap.size]? = some (.deferred (some [])) → (∃ V0, Fin V0 ∧ Chg (fun k => k = w.heap.size + 1) V0 V) → e = .ret ∨ (∃ id, e = .exit id) ∨ (∃ t, e = .goto t) → Φ e (mark w.heap.size :: ds) fr V) :
  CN P (.rangeFunc g ps.toArray assign body) m none ds Φ fr w := by
 intro a ha
 refine wpIn_rangeFunc fun fn0 _ => ?_
 obtain ⟨rec, hrec⟩ : ∃ rec : LoopState → Option Code → Loop, rec = fun st pe => { state := st, pending := pe, fn := fn0, tmps := a.tmps, params := ps.toArray, assign, body, defers := w.heap.size } := ⟨_, rfl⟩
 obtain ⟨W1, hW1⟩ : ∃ W1, (w.alloc (.deferred (some []))).alloc (.loop (rec .ready none)) = W1 := ⟨_, rfl⟩
 have hx1 : Ext w W1 := by rw [← hW1]; exact (Chg.alloc _).trans (Chg.alloc (S := fun _ => False) _) (fun _ _ f => f)
 have hz1 : W1.heap.size = w.heap.size + 2 := by rw [← hW1]; simp
 have hL1 : W1.heap[w.heap.size + 1]? = some (.loop (rec .ready none)) := by
  rw [← hW1]; have := World.alloc_heap_new (w.alloc (.deferred (some []))) (.loop (rec .ready none)); rwa [World.size_alloc] at this
 have hD1 : W1.heap[w.heap.size]? = some (.deferred (some [])) := by
  rw [← hW1]; exact (Below.heap_alloc _ _ _ (by simp)).trans (World.alloc_heap_new w _)
 refine ⟨w.heap.size + 1, [mark w.heap.size], W1, { target := .fn (.func gf) lb.toArray, args := #[.func (.yield (w.heap.size + 1)) #[] #[]] }, W1, gf,
  #[.func (.yield (w.heap.size + 1)) #[] #[]] ++ lb.toArray, W1, ?_, ?_, fun _ _ => trivial, ?_, fun hx => (by simp [FX] at hx), ?_⟩
 ·
  rw [← hW1, hrec]; exact run_enterLoop_outer _ _ _ _ _
 ·
  have e := ha.ev hg
  simp only [resolve, e]
  simp [Deferred.ofValue, Act.eval]
 ·
  simp [invoke, run_callFunc hf hb hn]
 ·
  refine callsIn_FX.2 ?_
  have hdef : ∀ V : World, (a.defers = ds) → Rep (m, mark w.heap.size :: ds, none) { a with defers := mark w.heap.size :: a.defers } fr := fun V hd => ⟨ha.size, by rw [hd], ha.get⟩
  have hend : ∀ (st : LoopState) (pe : Option Code) (V : World), st ≠ .busy → V.heap[w.heap.size + 1]? = some (.loop (rec st pe)) →
    (Instr.endLoop (w.heap.size + 1)).run P V = .ok pe (V.putObj (w.heap.size + 1) (.loop (rec .exhausted pe))) := fun st pe V hs hv => by
   have := run_endLoop (P := P) hv (by rw [hrec]; exact hs)
   rw [hrec] at this ⊢
   exact this
  have key := hit (w.heap.size + 1) W1
   (fun s i V => I s i V ∧ V.heap[w.heap.size + 1]? = some (.loop (rec .ready none)) ∧ V.heap[w.heap.size]? = some (.deferred (some [])) ∧ w.heap.size + 2 ≤ V.heap.size ∧ ∀ i, ¬ Keep s i (w.heap.size + 1))
   (fun V => ∃ s e c, Ix s e V ∧ V.heap[w.heap.size + 1]? = some (.loop (rec .done (some c))) ∧ V.heap[w.heap.size]? = some (.deferred (some [])) ∧ w.heap.size + 2 ≤ V.heap.size ∧
    ((e = .ret ∧ c = .ret) ∨ (∃ id, e = .exit id ∧ c = .exit id) ∨ (∃ t, e = .goto t ∧ c = .goto t))) hx1
   (fun s V hc hs => ⟨h0 W1 s V hx1 (by omega) hc hs, (hc.block _ (by omega) (fun h => by have := hT0 _ h; omega)).trans hL1, (hc.block _ (by omega) (fun h => by have := hT0 _ h; omega)).trans hD1, by have := hc.size; omega, hK W1 s V (by omega) hs⟩)
   (fun s i V V' hJ hc => ⟨hI s i V V' hJ.1 (hc.mono fun _ _ h => .inl h), (hc.block _ (by omega) (fun h => by have := hT0 _ h; omega)).trans hJ.2.1, (hc.block _ (by omega) (fun h => by have := hT0 _ h; omega)).trans hJ.2.2.1, by have := hc.size; omega, hJ.2.2.2.2⟩)
   (fun V V' hJ hc => by
    obtain ⟨s, e, c, h1, h2, h3, h4, h5⟩ := hJ
    exact ⟨s, e, c, hIx s e V V' h1 (hc.mono fun _ _ h => .inl h), (hc.block _ (by omega) (fun h => by have := hT0 _ h; omega)).trans h2, (hc.block _ (by omega) (fun h => by have := hT0 _ h; omega)).trans h3, by have := hc.size; omega, h5⟩)
   (fun s i x V hJ hx hAt => by
    obtain ⟨hi, hl, hD, hz, hk⟩ := hJ
    have hy := run_yield (P := P) (args := (encs x).toArray) hl (by rw [hrec]; simp [hps x])
    rw [hrec] at hy
    refine ⟨fn0, _, assign, body, hy, roundIn_of_wpIn trivial ?_⟩
    have hrep : Rep (m, [], some (w.heap.size + 1)) { tmps := (ps.toArray.zip (encs x).toArray).foldl (fun t (p, v) => t.setIfInBounds p v) a.tmps, defers := [] } (zipF ps (encs x) fr) := by
     have h1 : Rep (m, [], some (w.heap.size + 1)) { tmps := a.tmps, defers := [] } fr := ⟨ha.size, rfl, ha.get⟩
     have := Rep.zip (vs := encs x) hpm h1
     simpa using this
    refine wpIn_mono (hround s i x V hi hx hAt hz _ hrep) ?_
    rintro e a1 V1 ⟨f, hf1, hp⟩
    cases e with
    | normal =>
     obtain ⟨hx2, hbody⟩ := hp
     have hl1 := (hx2.block _ (by omega) (fun h => h)).trans hl
     have hD1 := (hx2.block _ (by omega) (fun h => h)).trans hD
     refine ⟨_, run_beginRound hl1 (by rw [hrec]), ?_⟩
     have hlt : w.heap.size + 1 < V1.heap.size := by have := hx2.size; omega
     have hl2 : (V1.putObj (w.heap.size + 1) (.loop { rec .ready none with state := .busy })).heap[w.heap.size + 1]? = some (.loop { rec .ready none with state := .busy }) := World.putObj_heap_same hlt
     have hD2 : (V1.putObj (w.heap.size + 1) (.loop { rec .ready none with state := .busy })).heap[w.heap.size]? = some (.deferred (some [])) := (World.putObj_heap_other (by omega)).trans hD1
     have hc2 : Chg (fun k => k = w.heap.size + 1) V1 (V1.putObj (w.heap.size + 1) (.loop { rec .ready none with state := .busy })) := Chg.putObj _ rfl
     have fin : ∀ (jump : Option Code) (V3 : World), Chg (fun k => k ≠ w.heap.size + 1 ∧ k ≠ w.heap.size) (V1.putObj (w.heap.size + 1) (.loop { rec .ready none with state := .busy })) V3 →
       (Instr.endRound (w.heap.size + 1) jump).run P V3 = .ok (.bool jump.isNone) (V3.putObj (w.heap.size + 1) (.loop (rec (if jump.isNone then .ready else .done) jump))) ∧
       (V3.putObj (w.heap.size + 1) (.loop (rec (if jump.isNone then .ready else .done) jump))).heap[w.heap.size + 1]? = some (.loop (rec (if jump.isNone then .ready else .done) jump)) ∧
       (V3.putObj (w.heap.size + 1) (.loop (rec (if jump.isNone then .ready else .done) jump))).heap[w.heap.size]? = some (.deferred (some [])) ∧ w.heap.size + 2 ≤ (V3.putObj (w.heap.size + 1) (.loop (rec (if jump.isNone then .ready else .done) jump))).heap.size := fun jump V3 hk3 => by
      have hl3 := (hk3.block _ (Array.getElem?_eq_some_iff.1 hl2).1 (fun h => h.1 rfl)).trans hl2
      have hD3 := (hk3.block _ (Array.getElem?_eq_some_iff.1 hD2).1 (fun h => h.2 rfl)).trans hD2
      have hz3 := hk3.size
      have := run_endRound (P := P) jump hl3
      rw [hrec] at this ⊢
      refine ⟨this, World.putObj_heap_same (Array.getElem?_eq_some_iff.1 hl3).1, (World.putObj_heap_other (by omega)).trans hD3, ?_⟩
      simp only [World.putObj_size] at hz3 ⊢
      have := hx2.size
      omega
     have chg : ∀ (V3 : World) (o : Obj), Chg (fun k => ¬ Keep s i k ∧ k ≠ w.heap.size + 1 ∧ k ≠ w.heap.size) (V1.putObj (w.heap.size + 1) (.loop { rec .ready none with state := .busy })) V3 → Chg (fun k => ¬ Keep s i k) V (V3.putObj (w.heap.size + 1) o) := fun V3 o hk3 =>
      ((hx2.chg.trans (hc2.mono (T := fun k => ¬ Keep s i k) fun k _ h => by rw [h]; exact hk i) (fun _ _ h => h)).trans (hk3.mono (T := fun k => ¬ Keep s i k) fun _ _ h => h.1) (fun _ _ h => h)).trans (Chg.putObj (S := fun k => ¬ Keep s i k) _ (hk i)) (fun _ _ h => h)
     refine wpIn_mono (hbody _ hc2 a1 hf1) ?_
     rintro e3 a3 V3 ⟨f3, hf3, hp3⟩
     cases e3 with
     | normal =>
      obtain ⟨hi3, hk3⟩ := hp3
      obtain ⟨hr, hl4, hD4, hz4⟩ := fin none V3 (hk3.mono fun _ _ h => ⟨h.2.1, h.2.2⟩)
      refine ⟨_, _, hr, true, rfl, .inl ⟨rfl, ⟨hI _ _ _ _ hi3 (Chg.putObj _ (.inr rfl)), hl4, hD4, hz4, hk⟩, ?_⟩⟩
      exact chg V3 _ hk3
     | ret =>
      obtain ⟨hi3, hk3⟩ := hp3
      obtain ⟨hr, hl4, hD4, hz4⟩ := fin (some .ret) V3 (hk3.mono fun _ _ h => ⟨h.2.1, h.2.2⟩)
      exact ⟨_, _, hr, false, rfl, .inr ⟨rfl, ⟨s, .ret, .ret, hIx _ _ _ _ hi3 (Chg.putObj _ (.inr rfl)), hl4, hD4, hz4, .inl ⟨rfl, rfl⟩⟩, chg V3 _ hk3⟩⟩
     | exit id =>
      obtain ⟨hi3, hk3⟩ := hp3
      obtain ⟨hr, hl4, hD4, hz4⟩ := fin (some (.exit id)) V3 (hk3.mono fun _ _ h => ⟨h.2.1, h.2.2⟩)
      exact ⟨_, _, hr, false, rfl, .inr ⟨rfl, ⟨s, .exit id, .exit id, hIx _ _ _ _ hi3 (Chg.putObj _ (.inr rfl)), hl4, hD4, hz4, .inr (.inl ⟨id, rfl, rfl⟩)⟩, chg V3 _ hk3⟩⟩
     | goto t =>
      obtain ⟨hi3, hk3⟩ := hp3
      obtain ⟨hr, hl4, hD4, hz4⟩ := fin (some (.goto t)) V3 (hk3.mono fun _ _ h => ⟨h.2.1, h.2.2⟩)
      exact ⟨_, _, hr, false, rfl, .inr ⟨rfl, ⟨s, .goto t, .goto t, hIx _ _ _ _ hi3 (Chg.putObj _ (.inr rfl)), hl4, hD4, hz4, .inr (.inr ⟨t, rfl, rfl⟩)⟩, chg V3 _ hk3⟩⟩
     | panic c => exact hp3.elim
     | outgrown => exact hp3.elim
    | exit id => exact hp.elim
    | goto t => exact hp.elim
    | ret => exact hp.elim
    | panic c => exact hp.elim
    | outgrown => exact hp.elim)
  have hlist : (Value.func (.yield (w.heap.size + 1)) #[] #[] :: lb).toArray = #[Value.func (.yield (w.heap.size + 1)) #[] #[]] ++ lb.toArray := by simp
  rw [hlist] at key
  refine key.mono ?_
  rintro e V hR
  cases e with
  | returned v =>
   obtain ⟨hR, hfin⟩ := hR
   rcases hR with ⟨s, hi, hl, hD, hz, _⟩ | ⟨s, e, c, hi, hl, hD, hz, hec⟩
   ·
    refine ⟨none, _, hend .ready none V (by simp) hl, _, fr, hdef V ha.defers, ?_⟩
    exact hdone s _ (hI _ _ _ _ hi (Chg.putObj _ (.inr rfl))) ((World.putObj_heap_other (by omega)).trans hD) ⟨V, hfin, Chg.putObj _ rfl⟩
   ·
    refine ⟨some c, _, hend .done (some c) V (by simp) hl, ?_⟩
    have hi' := hIx _ _ _ _ hi (Chg.putObj (r := w.heap.size + 1) (.loop (rec .exhausted (some c))) (.inr rfl))
    have hD' : (V.putObj (w.heap.size + 1) (.loop (rec .exhausted (some c)))).heap[w.heap.size]? = some (.deferred (some [])) := (World.putObj_heap_other (by omega)).trans hD
    have hw := hleave s e _ hi' hD' ⟨V, hfin, Chg.putObj _ rfl⟩ (by rcases hec with ⟨h, _⟩ | ⟨id, h, _⟩ | ⟨t, h, _⟩ <;> simp [h])
    rcases hec with ⟨rfl, rfl⟩ | ⟨id, rfl, rfl⟩ | ⟨t, rfl, rfl⟩
    ·
     exact wpIn_ret ⟨_, fr, hdef V ha.defers, hw⟩
    ·
     exact wpIn_exit ⟨_, fr, hdef V ha.defers, hw⟩
    ·
     exact wpIn_goto ⟨_, fr, hdef V ha.defers, hw⟩
  | panicked ch => exact hR.elim
  | outgrown => exact hR.elim
end Go.Fw
