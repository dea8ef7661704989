/- Parts of a proof: what its last text leans on. No condition. -/
import Derived.Test.YtfanmpbapabboaaDoorK07
import Derived.Test.YtfanmpbapabboaaDoorK08
import Derived.Test.YtfanmpbapabboaaDoorK14
import Derived.Test.YtfanmpbapabboaaDoorK15
set_option linter.unusedSimpArgs false
set_option linter.unusedVariables false
/- delta.matches, walked: what it finds are the best places (Pd). No condition. -/
namespace Go.Proofs.YtfanmpbapabboaaDoor
open Go.RowKit Go.Fw Go.Pl
abbrev TMt : TypeId := 129
abbrev encM (p : Nat × Nat) : List Value := [.int .i64 (p.1 : Int), .int .i64 (p.2 : Int)]
abbrev matC (l : List (Nat × Nat)) : List Value := (l.map encM).flatten
theorem encM_length (p : Nat × Nat) : (encM p).length = 2 := rfl
theorem one_encM (p : Nat × Nat) : ∀ u ∈ encM p, u.oneCell' = true := by
 intro u hu
 simp at hu
 rcases hu with rfl | rfl <;> rfl
theorem sz0_deltamatch : (Tryd.prog.info? 129).map (·.size) = some 2 := by kernel_rfl
theorem fo_deltamatch0 : FieldOff Tryd.prog TMt 0 0 := ⟨_, _, 1, Tryd.underlying129, rfl, sz_int, by decide, rfl⟩
theorem fo_deltamatch1 : FieldOff Tryd.prog TMt 1 1 := ⟨_, _, 1, Tryd.underlying129, rfl, sz_int, by decide, rfl⟩
theorem mi_match : MakeInfo Tryd.prog TMt [.int .i64 0, .int .i64 0] 16 := by
 have h : (Tryd.prog.info? TMt).map (fun i => (i.zero, i.size, i.bytes)) = some (some (.agg #[.int .i64 0, .int .i64 0]), 2, 16) := by kernel_rfl
 obtain ⟨i, hi, h⟩ := Option.map_eq_some_iff.1 h
 obtain ⟨h1, h2⟩ := Prod.mk.inj h
 obtain ⟨h2, h3⟩ := Prod.mk.inj h2
 exact ⟨i, _, hi, h1, rfl, h2, h3⟩
theorem mi_int : MakeInfo Tryd.prog 3 [.int .i64 0] 8 := by
 have h : (Tryd.prog.info? 3).map (fun i => (i.zero, i.size, i.bytes)) = some (some (.int .i64 0), 1, 8) := by kernel_rfl
 obtain ⟨i, hi, h⟩ := Option.map_eq_some_iff.1 h
 obtain ⟨h1, h2⟩ := Prod.mk.inj h
 obtain ⟨h2, h3⟩ := Prod.mk.inj h2
 exact ⟨i, _, hi, h1, rfl, h2, h3⟩
theorem zero_int (w : World) : (zeroValue 3).run Tryd.prog w = .ok (.int .i64 0) w := by
 obtain ⟨i, z, hi, hz, hzc, _⟩ := mi_int
 have h : (Tryd.prog.info? 3).map (fun i => i.zero) = some (some (.int .i64 0)) := by kernel_rfl
 rw [hi] at h
 simp at h
 simp [zeroValue, typeInfo, hi, h]
theorem mat_zeros (m : Nat) : (List.replicate m [Value.int .i64 0, .int .i64 0]).flatten = matC (List.replicate m (0, 0)) := by
 rw [matC, List.map_replicate]; rfl
theorem build_match (a b : Int) (w : World) : (Instr.build TMt [(0, Value.int .i64 a), (1, Value.int .i64 b)].toArray).run Tryd.prog w = .ok (.agg [Value.int .i64 a, Value.int .i64 b].toArray) w := run_build w _ _ _ kr_
theorem set_self {α : Type} {l : List α} {i : Nat} {x : α} (h : l[i]? = some x) : l.set i x = l := by
 obtain ⟨hlt, rfl⟩ := List.getElem?_eq_some_iff.1 h
 exact List.set_getElem_self hlt
theorem toNat_ne {a b : UInt8} : ((a.toNat : Int) ≠ (b.toNat : Int)) ↔ a ≠ b := by
 constructor
 ·
  rintro h rfl; exact h rfl
 ·
  intro h e; exact h (UInt8.toNat_inj.1 om_)
set_option maxRecDepth 100000 in
set_option maxHeartbeats 2000000 in
theorem matches_any (u v : Value) (base target : List UInt8) (w : World) (hu : By w u base) (hv : By w v target) (hbm : base.length ≤ 4096) (htm : target.length ≤ 4096) : Calls Tryd.prog 62 #[u, v] w (Ret fun r w' => ∃ g, r = .slice (some ⟨g, 0, none⟩) target.length target.length ∧ w.heap.size ≤ g ∧ Blk w' g TMt (matC ((List.range target.length).map (bestOf base target))) ∧ Ext w w') := by
 have hul := hu.ltB
 have hvl := hv.ltB
 have hu0 := hu
 have hv0 := hv
 obtain ⟨A, m, c, rfl⟩ := hu.lens
 obtain ⟨B, n, cb, rfl⟩ := hv.lens
 have hm := hu.len.1
 have hn := hv.len.1
 refine calls_of_CW 76 [4] [(0, .slice A m c), (1, .slice B n cb)] Tryd.func62 rfl rfl rfl (by simp) args2 ?_
 have hE : Ext w w := Chg.refl
 refine CW.sr fun K1 hK1 => ?_
 refine WL.a rfl ?_
 refine WL.nil (hK1 _ _ ?_); try clear hK1
 refine CW.sr fun K2 hK2 => ?_
 refine WL.m rfl ?_
 refine WL.v (Y.len_slice Tryd.underlying32 rfl) ?_
 refine WL.st (St.makeK (m := n) Tryd.underlying126 mi_match rfl rfl om_ om_) de_ fun v12 w1 hR1 => ?_
 obtain ⟨gb, rfl, hgb, hBb, hx1⟩ := hR1
 have hz1 := hx1.size
 have hE := hE.thenExt hx1
 have hu := hu.ext hx1
 have hv := hv.ext hx1
 rw [mat_zeros] at hBb
 have hgbl := hBb.lt
 refine WL.a rfl ?_
 refine WL.nil (hK2 _ _ ?_); try clear hK2
 refine CW.seq_to (X := Nat × Nat) (fun y => [(0, .slice A m c), (1, .slice B n cb), (5, .slice (some ⟨gb, 0, none⟩) n n), (6, .slice (some ⟨y.1, 0, none⟩) (m + 1) (m + 1)), (7, .slice (some ⟨y.2, 0, none⟩) (m + 1) (m + 1))]) (fun y w0 => Blk w0 y.1 3 (intC (List.replicate (m + 1) 0)) ∧ Blk w0 y.2 3 (intC (List.replicate (m + 1) 0)) ∧ y.1 ≠ y.2 ∧ w1.heap.size ≤ y.1 ∧ w1.heap.size ≤ y.2 ∧ Ext w1 w0) ?_ ?_
 ·
  skip
  refine CW.held (fun wq => Ext w1 wq) kr_ 10 rfl fun w2 hS => ?_
  refine RH.tk 0 hS rfl (fun wq hq => Y.move rfl) ?_
  refine RH.tk 1 hS rfl (fun wq hq => Y.len_slice Tryd.underlying32 rfl) ?_
  refine RH.tk 2 hS rfl (fun wq hq => Y.add rfl rfl o2_) ?_
  refine RH.tk 4 hS rfl (fun wq hq => Y.move rfl) ?_
  refine RH.tk 5 hS rfl (fun wq hq => Y.len_slice Tryd.underlying32 rfl) ?_
  refine RH.tk 6 hS rfl (fun wq hq => Y.add rfl rfl o2_) ?_
  refine RH.two 3 7 kr_ ?_ ?_
  ·
   skip
   refine RS.st rfl (St.makeK (m := m + 1) Tryd.underlying144 mi_int rfl rfl om_ om_) de_ fun v16 w3 hR3 => ?_
   obtain ⟨gn, rfl, hgn, hBn, hx3⟩ := hR3
   have hzS0 := hS.size
   have hS := hS.thenExt hx3
   have hgnl := hBn.lt
   rw [intC_zeros] at hBn
   refine ⟨hS, ?_⟩
   refine RH.tk 8 hS rfl (fun wq hq => Y.assign rfl) ?_
   refine RH.one 7 kr_ ?_
   refine RS.st rfl (St.makeK (m := m + 1) Tryd.underlying144 mi_int rfl rfl om_ om_) de_ fun v20 w4 hR4 => ?_
   obtain ⟨gr, rfl, hgr, hBr, hx4⟩ := hR4
   rw [intC_zeros] at hBr
   have hzS := hS.size
   have hS := hS.thenExt hx4
   have hBn := hBn.ext hx4
   refine ⟨hS, ?_⟩
   refine RH.tk 9 hS rfl (fun wq hq => Y.assign rfl) ?_
   refine RH.done kr_ ?_
   have hx5 := hS; have hz5 := hx5.size; have hE := hE.thenExt hx5; have hu := hu.ext hx5; have hv := hv.ext hx5
   exact ⟨(gn, gr), Fr.ok, hBn, hBr, by show gn ≠ gr; omega, by show w1.heap.size ≤ gn; have := hx3.size; omega, by show w1.heap.size ≤ gr; omega, hS⟩
  ·
   skip
   refine RS.st rfl (St.makeK (m := m + 1) Tryd.underlying144 mi_int rfl rfl om_ om_) de_ fun v20 w6 hR6 => ?_
   obtain ⟨gr, rfl, hgr, hBr, hx6⟩ := hR6
   have hzS0 := hS.size
   have hS := hS.thenExt hx6
   have hgrl := hBr.lt
   rw [intC_zeros] at hBr
   refine ⟨hS, ?_⟩
   refine RH.one 3 kr_ ?_
   refine RS.st rfl (St.makeK (m := m + 1) Tryd.underlying144 mi_int rfl rfl om_ om_) de_ fun v16 w7 hR7 => ?_
   obtain ⟨gn, rfl, hgn, hBn, hx7⟩ := hR7
   rw [intC_zeros] at hBn
   have hzS := hS.size
   have hS := hS.thenExt hx7
   have hBr := hBr.ext hx7
   refine ⟨hS, ?_⟩
   refine RH.tk 8 hS rfl (fun wq hq => Y.assign rfl) ?_
   refine RH.tk 9 hS rfl (fun wq hq => Y.assign rfl) ?_
   refine RH.done kr_ ?_
   have hx8 := hS; have hz8 := hx8.size; have hE := hE.thenExt hx8; have hu := hu.ext hx8; have hv := hv.ext hx8
   exact ⟨(gn, gr), Fr.ok, hBn, hBr, by show gn ≠ gr; omega, by show w1.heap.size ≤ gn; omega, by show w1.heap.size ≤ gr; have := hx6.size; omega, hS⟩
 rintro u w9 hj9
 obtain ⟨gn, gr⟩ := u
 dsimp only at hj9 ⊢
 obtain ⟨hBn, hBr, hngr, hgn, hgr, hx⟩ := hj9
 have hzx := hx.size
 have hE := hE.thenExt hx
 have hu := hu.ext hx
 have hv := hv.ext hx
 have hBb := hBb.ext hx
 refine CW.seq fun K3 hK3 => ?_
 refine CW.sr fun K4 hK4 => ?_
 refine WL.m rfl ?_
 refine WL.v (Y.len_slice Tryd.underlying32 rfl) ?_
 refine WL.v (Y.sub rfl rfl o2_) ?_
 refine WL.a rfl ?_
 refine WL.nil (hK4 _ _ ?_); try clear hK4
 refine CW.block ?_
 refine CW.loop (X := Int × Nat × Nat × Nat × List (Nat × Nat)) (fun x => [(0, .slice A m c), (1, .slice B n cb), (5, .slice (some ⟨gb, 0, none⟩) n n), (6, .slice (some ⟨x.2.2.1, 0, none⟩) (m + 1) (m + 1)), (7, .slice (some ⟨x.2.2.2.1, 0, none⟩) (m + 1) (m + 1)), (8, .int .i64 x.1)]) (fun x w0 => (x.1 : Int) = (x.2.1 : Int) - 1 ∧ x.2.1 ≤ n ∧ x.2.2.1 ≠ x.2.2.2.1 ∧ gb ≠ x.2.2.1 ∧ gb ≠ x.2.2.2.1 ∧ w.heap.size ≤ x.2.2.1 ∧ w.heap.size ≤ x.2.2.2.1 ∧ x.2.2.2.2.length = n ∧ (∀ i, x.2.1 ≤ i → i < n → x.2.2.2.2[i]? = some (bestOf base target i)) ∧ (∀ i, i < x.2.1 → x.2.2.2.2[i]? = some (0, 0)) ∧ Blk w0 gb TMt (matC x.2.2.2.2) ∧ Blk w0 x.2.2.1 3 (intC (rowsD base target (n - x.2.1))) ∧ (∃ S, S.length = m + 1 ∧ Blk w0 x.2.2.2.1 3 (intC S)) ∧ Ext w w0) (fun x => x.2.1) ((n : Int) - 1, n, gn, gr, List.replicate n (0, 0)) Fr.ok ⟨rfl, Nat.le_refl _, hngr, by show gb ≠ gn; omega, by show gb ≠ gr; omega, by show w.heap.size ≤ gn; omega, by show w.heap.size ≤ gr; omega, List.length_replicate, (fun i h1 h2 => by have h1 : n ≤ i := h1; omega), (fun i h => by rw [List.getElem?_replicate, if_pos h]), hBb, (by show Blk _ gn _ (intC (rowsD base target (n - n))); rw [Nat.sub_self, rowsD, hm]; exact hBn), ⟨_, List.length_replicate, hBr⟩, hE⟩ ?_
 intro x w10 hl10
 obtain ⟨z, q, gn, gr, bests⟩ := x
 dsimp only at hl10 ⊢
 obtain ⟨hzq, hqn, hngr, hbn, hbr, hgn, hgr, hbl, hdone, hrest, hBb, hBn, hBr, hE⟩ := hl10
 have hu := hu0.ext hE
 have hv := hv0.ext hE
 have hzE := hE.size
 refine CW.seq fun K5 hK5 => ?_
 refine CW.sr fun K6 hK6 => ?_
 refine WL.m rfl ?_
 refine WL.v (Y.geq rfl rfl) ?_
 refine WL.nil (hK6 _ _ ?_); try clear hK6
 (first | refine cd_ rfl ?_ ?_ | refine ce_ rfl ?_ ?_ | refine cn_ rfl ?_ ?_ | refine cb_ rfl ?_ ?_) <;> intro ht7
 ·
  -- then
  refine CW.skip ?_
  refine hK5 _ _ ?_; try clear hK5
  refine CW.seq fun K8 hK8 => ?_
  obtain ⟨k, rfl⟩ : ∃ k : Nat, z = (k : Int) := ⟨z.toNat, by omega⟩; have hqk : q = k + 1 := om_; subst hqk; obtain ⟨S, hS, hBr⟩ := hBr; refine CW.block ?_
  refine CW.sr fun K9 hK9 => ?_
  refine WL.m rfl ?_
  refine WL.su (Su.clearI Tryd.underlying144 zero_int rfl hBr hS) fun w11 hR11 => ?_
  obtain ⟨hBr, hc11⟩ := hR11
  have hz11 := hc11.size
  have hE := hE.step hc11 (fun k h => by have h : k = gr := h; omega)
  have hu := hu0.ext hE
  have hv := hv0.ext hE
  have hBb := hBb.chg hc11 (fun h => hbr h)
  have hBn := hBn.chg hc11 (fun h => hngr h)
  refine WL.nil (hK9 _ _ ?_); try clear hK9
  refine CW.seq fun K10 hK10 => ?_
  refine CW.sr fun K11 hK11 => ?_
  refine WL.m rfl ?_
  refine WL.v (Y.len_slice Tryd.underlying32 rfl) ?_
  refine WL.v (Y.sub rfl rfl o2_) ?_
  refine WL.a rfl ?_
  refine WL.nil (hK11 _ _ ?_); try clear hK11
  refine CW.block ?_
  refine CW.loop (X := Int × Nat) (fun x => [(0, .slice A m c), (1, .slice B n cb), (5, .slice (some ⟨gb, 0, none⟩) n n), (6, .slice (some ⟨gn, 0, none⟩) (m + 1) (m + 1)), (7, .slice (some ⟨gr, 0, none⟩) (m + 1) (m + 1)), (8, .int .i64 (k : Int)), (9, .int .i64 x.1)]) (fun x w0 => (x.1 : Int) = (x.2 : Int) - 1 ∧ x.2 ≤ m ∧ Blk w0 gb TMt (matC (bests.set k (bestD base (target.getD k 0) (rowsD base target (n - (k + 1))) (m - x.2)))) ∧ Blk w0 gn 3 (intC (rowsD base target (n - (k + 1)))) ∧ Blk w0 gr 3 (intC (rowPart base (target.getD k 0) (rowsD base target (n - (k + 1))) x.2)) ∧ Ext w w0) (fun x => x.2) ((m : Int) - 1, m) Fr.ok ⟨rfl, Nat.le_refl _, (by show Blk _ gb _ (matC (bests.set k (bestD base _ _ (m - m)))); rw [Nat.sub_self, bestD, set_self (hrest k om_)]; exact hBb), hBn, (by show Blk _ gr _ (intC (rowPart base _ _ m)); rw [← hm, rowPart_top, hm]; exact hBr), hE⟩ ?_
  intro x w12 hl12
  obtain ⟨z2, q2⟩ := x
  dsimp only at hl12 ⊢
  obtain ⟨hzq2, hq2m, hBb, hBn, hBr, hE⟩ := hl12
  have hu := hu0.ext hE
  have hv := hv0.ext hE
  have hzE2 := hE.size
  refine CW.seq fun K12 hK12 => ?_
  refine CW.sr fun K13 hK13 => ?_
  refine WL.m rfl ?_
  refine WL.v (Y.geq rfl rfl) ?_
  refine WL.nil (hK13 _ _ ?_); try clear hK13
  (first | refine cd_ rfl ?_ ?_ | refine ce_ rfl ?_ ?_ | refine cn_ rfl ?_ ?_ | refine cb_ rfl ?_ ?_) <;> intro ht14
  ·
   -- then
   refine CW.skip ?_
   refine hK12 _ _ ?_; try clear hK12
   obtain ⟨k2, rfl⟩ : ∃ k : Nat, z2 = (k : Int) := ⟨z2.toNat, by omega⟩; have hqk2 : q2 = k2 + 1 := om_; subst hqk2; refine CW.seq_to (X := Unit) (fun _ => [(0, .slice A m c), (1, .slice B n cb), (5, .slice (some ⟨gb, 0, none⟩) n n), (6, .slice (some ⟨gn, 0, none⟩) (m + 1) (m + 1)), (7, .slice (some ⟨gr, 0, none⟩) (m + 1) (m + 1)), (8, .int .i64 (k : Int)), (9, .int .i64 (k2 : Int))]) (fun _ w0 => Blk w0 gb TMt (matC (bests.set k (bestD base (target.getD k 0) (rowsD base target (n - (k + 1))) (m - k2)))) ∧ Blk w0 gn 3 (intC (rowsD base target (n - (k + 1)))) ∧ Blk w0 gr 3 (intC (rowPart base (target.getD k 0) (rowsD base target (n - (k + 1))) k2)) ∧ Ext w w0) ?_ ?_
   ·
    skip
    refine CW.block ?_
    refine CW.seq fun K16 hK16 => ?_
    refine CW.seq fun K17 hK17 => ?_
    refine CW.quiet (fun wq => Ext w12 wq) kr_ kr_ Chg.drew ?_
    obtain ⟨a1, rfl, hma⟩ := hu.mem.1 om_; obtain ⟨b1, rfl, hmb⟩ := hv.mem.1 om_; obtain ⟨x1, hxk⟩ : ∃ y, base[k2]? = some y := ⟨_, List.getElem?_eq_getElem om_⟩; obtain ⟨y1, hyk⟩ : ∃ y, target[k]? = some y := ⟨_, List.getElem?_eq_getElem om_⟩; have hyT : target.getD k 0 = y1 := (by rw [List.getD_eq_getElem?_getD, hyk]; rfl); obtain ⟨nv, hnv⟩ : ∃ v, (rowsD base target (n - (k + 1)))[k2 + 1]? = some v := ⟨_, List.getElem?_eq_getElem (by rw [rowsD_length]; omega)⟩; have hnvl := rowsD_le base target om_ hnv; refine QL.val (fun wq hq => Y.move rfl) de_ ?_
    refine QL.m rfl ?_
    refine QL.v (fun wq hq => Y.indexAddrN Tryd.underlying32 rfl rfl sz0_uint8 om_) ?_
    refine QL.v (fun wq hq => Y.load1 Tryd.underlying5 rfl ((hma.ext hq) (k2 * 1) _ (by rw [Nat.mul_one]; exact bytesC_get hxk)) rfl) ?_
    refine QL.m rfl ?_
    refine QL.m rfl ?_
    refine QL.v (fun wq hq => Y.indexAddrN Tryd.underlying32 rfl rfl sz0_uint8 om_) ?_
    refine QL.v (fun wq hq => Y.load1 Tryd.underlying5 rfl ((hmb.ext hq) (k * 1) _ (by rw [Nat.mul_one]; exact bytesC_get hyk)) rfl) ?_
    refine QL.v (fun wq hq => Y.neq rfl rfl) ?_
    refine QL.nil fun w13 hx13 => ?_
    have hz13 := hx13.size
    have hE := hE.thenExt hx13
    have hu := hu.ext hx13
    have hv := hv.ext hx13
    refine hK17 _ _ ?_; try clear hK17
    (first | refine cd_ rfl ?_ ?_ | refine ce_ rfl ?_ ?_ | refine cn_ rfl ?_ ?_ | refine cb_ rfl ?_ ?_) <;> intro ht18
    ·
     -- then
     refine CW.exit ?_
     have hne : base[k2]? ≠ some (target.getD k 0) := by rw [hxk, hyT]; intro h; injection h with h; exact (toNat_ne.1 (by assumption)) h
     exact ⟨(), Fr.ok, by rw [← hm, bestD_no om_ (fun h => hne h.1), hm]; exact hBb.ext hx13, hBn.ext hx13, by rw [rowPart_same (rowAt_no hne)]; exact hBr.ext hx13, hE⟩
    refine CW.skip ?_
    refine hK16 _ _ ?_; try clear hK16
    refine CW.sr fun K19 hK19 => ?_
    refine WL.m rfl ?_
    refine WL.m rfl ?_
    refine WL.m rfl ?_
    refine WL.m rfl ?_
    refine WL.v (Y.add rfl rfl o2_) ?_
    refine WL.v (Y.indexAddrN (i := k2 + 1) Tryd.underlying144 rfl rfl sz0_int om_) ?_
    refine WL.v (Y.load1 Tryd.underlying3 rfl ((hBn.ext hx13).icell hnv) rfl) ?_
    refine WL.v (Y.add rfl rfl o2_) ?_
    refine WL.v (Y.indexAddrN Tryd.underlying144 rfl rfl sz0_int om_) ?_
    refine WL.storeC rfl rfl rfl rfl rfl sz_int (hBr.ext hx13) (by rw [intC_length, rowPart_length]; omega) (fun w14 hc14 hB14_ => ?_)
    have hz14 := hc14.size; have hE := hE.step hc14 (fun k h => by omega); have hu := hu.chg hc14 (fun h0 k hk h => by have := hul h0 k hk; omega); have hv := hv.chg hc14 (fun h0 k hk h => by have := hvl h0 k hk; omega)
    have hxy : base[k2]? = some (target.getD k 0) := by rw [hxk, hyT]; exact congrArg some (Decidable.not_not.1 fun h => (by assumption : ¬ ((x1.toNat : Int) ≠ (y1.toNat : Int))) (toNat_ne.2 h))
    have hra := rowAt_yes hxy hnv
    have hBr : Blk w14 gr 3 (intC (rowPart base (target.getD k 0) (rowsD base target (n - (k + 1))) k2)) := by
     have h := hB14_
     rw [show ((nv : Int) + 1) = ((nv + 1 : Nat) : Int) from rfl, intC_set, ← hra, rowPart_set om_] at h
     exact h
    have hBn := (hBn.ext hx13).chg hc14 (fun h => hngr h)
    have hBb := (hBb.ext hx13).chg hc14 (fun h => hbr h)
    refine WL.nil (hK19 _ _ ?_); try clear hK19
    refine CW.seq fun K20 hK20 => ?_
    refine CW.quiet (fun wq => Ext w14 wq) kr_ kr_ Chg.drew ?_
    refine QL.m rfl ?_
    refine QL.m rfl ?_
    refine QL.v (fun wq hq => Y.indexAddrN Tryd.underlying144 rfl rfl sz0_int om_) ?_
    refine QL.v (fun wq hq => Y.load1 Tryd.underlying3 rfl ((hBr.ext hq).icell (show (rowPart base (target.getD k 0) (rowsD base target (n - (k + 1))) k2)[k2]? = some (Go.Pl.rowAt base (target.getD k 0) (rowsD base target (n - (k + 1))) k2) by rw [rowPart_at om_, if_neg om_])) rfl) ?_
    refine QL.m rfl ?_
    refine QL.m rfl ?_
    refine QL.v (fun wq hq => Y.indexAddrN Tryd.underlying126 rfl rfl sz0_deltamatch om_) ?_
    refine QL.v (fun wq hq => Y.fieldAddr fo_deltamatch1 rfl) ?_
    refine QL.v (fun wq hq => Y.load1 Tryd.underlying3 rfl (((hBb.ext hq).kmem encM_length (i := k) (x := bestD base (target.getD k 0) (rowsD base target (n - (k + 1))) (m - (k2 + 1))) (by rw [List.getElem?_set, if_pos rfl, if_pos om_])).cell 1 rfl) rfl) ?_
    refine QL.v (fun wq hq => Y.geq rfl rfl) ?_
    refine QL.nil fun w15 hx15 => ?_
    have hz15 := hx15.size
    have hE := hE.thenExt hx15
    have hu := hu.ext hx15
    have hv := hv.ext hx15
    refine hK20 _ _ ?_; try clear hK20
    (first | refine cd_ rfl ?_ ?_ | refine ce_ rfl ?_ ?_ | refine cn_ rfl ?_ ?_ | refine cb_ rfl ?_ ?_) <;> intro ht21
    ·
     -- then
     refine CW.region ?_
     refine WL.m rfl ?_
     refine WL.m rfl ?_
     refine WL.m rfl ?_
     refine WL.m rfl ?_
     refine WL.m rfl ?_
     refine WL.v (Y.indexAddrN Tryd.underlying144 rfl rfl sz0_int om_) ?_
     refine WL.v (Y.load1 Tryd.underlying3 rfl ((hBr.ext hx15).icell (show (rowPart base (target.getD k 0) (rowsD base target (n - (k + 1))) k2)[k2]? = some (Go.Pl.rowAt base (target.getD k 0) (rowsD base target (n - (k + 1))) k2) by rw [rowPart_at om_, if_neg om_])) rfl) ?_
     refine WL.v (Y.build rfl (build_match _ _ _)) ?_
     refine WL.v (Y.indexAddrN Tryd.underlying126 rfl rfl sz0_deltamatch om_) ?_
     refine WL.storeK (enc := encM) encM_length one_encM (v := (k2, Go.Pl.rowAt base (target.getD k 0) (rowsD base target (n - (k + 1))) k2)) rfl rfl rfl rfl kr_ (hBb.ext hx15) (by rw [List.getElem?_set, if_pos rfl, if_pos om_]) (fun w16 hc16 hB16_ => ?_)
     have hz16 := hc16.size; have hE := hE.step hc16 (fun k h => by omega); have hu := hu.chg hc16 (fun h0 k hk h => by have := hul h0 k hk; omega); have hv := hv.chg hc16 (fun h0 k hk h => by have := hvl h0 k hk; omega)
     rw [List.set_set] at hB16_
     have hBn := (hBn.ext hx15).chg hc16 (fun h => hbn h.symm)
     have hBr := (hBr.ext hx15).chg hc16 (fun h => hbr h.symm)
     refine WL.nil ?_
     exact ⟨(), Fr.ok, by rw [← hm, bestD_yes om_ hxy (by rw [hm]; omega)]; exact hB16_, hBn, hBr, hE⟩
    refine CW.skip ?_
    exact ⟨(), Fr.ok, by rw [← hm, bestD_no om_ (fun h => (by assumption : ¬ (_ ≤ _)) (by rw [← hm]; exact Int.ofNat_le.2 h.2)), hm]; exact hBb.ext hx15, hBn.ext hx15, hBr.ext hx15, hE⟩
   rintro u w17 hj17
   obtain ⟨hBb, hBn, hBr, hE⟩ := hj17
   refine CW.region ?_
   refine WL.m rfl ?_
   refine WL.v (Y.sub rfl rfl o2_) ?_
   refine WL.a rfl ?_
   refine WL.nil ?_
   exact ⟨((k2 : Int) - 1, k2), by show k2 < k2 + 1; omega, Fr.ok, rfl, by show k2 ≤ m; omega, hBb, hBn, hBr, hE⟩
  refine CW.exit ?_
  refine hK10 _ _ ?_; try clear hK10
  refine CW.region ?_
  refine WL.m rfl ?_
  refine WL.m rfl ?_
  refine WL.a rfl ?_
  refine WL.a rfl ?_
  refine WL.nil (hK8 _ _ ?_); try clear hK8
  refine CW.region ?_
  refine WL.m rfl ?_
  refine WL.v (Y.sub rfl rfl o2_) ?_
  refine WL.a rfl ?_
  refine WL.nil ?_
  have hq0 : q2 = 0 := by omega
  subst hq0
  have hn1 : n - k = n - (k + 1) + 1 := by omega
  have hBr2 : Blk w12 gr 3 (intC (rowsD base target (n - k))) := by
   rw [hn1, rowsD, show target.length - (n - (k + 1) + 1) = k by omega, ← rowPart_zero]
   exact hBr
  refine ⟨((k : Int) - 1, k, gr, gn, bests.set k (bestD base (target.getD k 0) (rowsD base target (n - (k + 1))) (m - 0))), by show k < k + 1; omega, Fr.ok, rfl, by show k ≤ n; omega, fun h => hngr h.symm, hbr, hbn, hgr, hgn, by show (bests.set _ _).length = n; rw [List.length_set, hbl], ?_, ?_, hBb, hBr2, ⟨_, by rw [rowsD_length, hm], hBn⟩, hE⟩
  ·
   intro i h1 h2
   have h1 : k ≤ i := h1
   show (bests.set _ _)[i]? = _
   by_cases hik : k = i
   ·
    subst hik
    rw [List.getElem?_set, if_pos rfl, if_pos om_, bestOf, show target.length - 1 - k = n - (k + 1) by omega, hm, Nat.sub_zero]
   ·
    rw [List.getElem?_set, if_neg hik]
    exact hdone i om_ h2
  ·
   intro i h
   have h : i < k := h
   show (bests.set _ _)[i]? = _
   rw [List.getElem?_set, if_neg om_]
   exact hrest i om_
 refine CW.exit ?_
 refine hK3 _ _ ?_; try clear hK3
 refine CW.sr fun K22 hK22 => ?_
 refine WL.m rfl ?_
 refine WL.a rfl ?_
 refine WL.nil (hK22 _ _ ?_); try clear hK22
 refine CW.ret ⟨_, rfl, ?_⟩
 have hq0 : q = 0 := by omega
 subst hq0
 have he : bests = (List.range target.length).map (bestOf base target) := by
  apply List.ext_getElem?
  intro i
  by_cases hi : i < n
  ·
   rw [hdone i om_ hi, List.getElem?_map, List.getElem?_range om_]; rfl
  ·
   rw [List.getElem?_eq_none om_, List.getElem?_eq_none (by simp; omega)]
 exact ⟨gb, by rw [hn], by omega, by rw [← he]; exact hBb, hE⟩
end Go.Proofs.YtfanmpbapabboaaDoor
/- pack.Reach, walked. No condition but the bounds of what is handed in. -/
namespace Go.Fw
open Go.RowKit
theorem Y.eql_snil {P : Program} {n : NN} {fr : Fr} {w : World} {ty : TypeId} {x : Operand} {A : Option Addr} {m c : Nat} {t t' e : TypeId} (hT : P.underlying t = some (.slice e)) (hx : ev fr x = some (.slice A m c)) :
  Yw P n fr (.binOp .eql t x (.const (.slice none 0 0)) t') ty w (.bool A.isNone) w := fun a o' ho _ ha => by
 have h1 := ha.ev hx
 have h2 : a.eval (.const (.slice none 0 0)) = .slice none 0 0 := rfl
 have h3 : ∀ d, (Op.equalIn (d + 1) t (.slice A m c) (.slice none 0 0)).run P w = .ok A.isNone w := fun d => by cases A <;> simp [Op.equalIn, run_underlying hT]
 have h4 : (Op.equal t (.slice A m c) (.slice none 0 0)).run P w = .ok A.isNone w := h3 9999
 simp [execOp, ho, h1, h2, eqGuard, binOp, h4]
theorem Own.cutTo {w : World} {e : TypeId} {k : Nat} {A : Option Addr} {n c i : Nat} {pre post : List Value} (h : Own w e k (.slice A n c) (pre ++ post)) (hl : pre.length = i * k) (hi : i ≤ n) : Own w e k (.slice A i c) pre := by
 rcases h with ⟨h1, h2⟩ | ⟨g, n', c', rest, fz, h1, hh, hxl, hnc, hcm, hal, hfz⟩
 ·
  cases h1
  obtain rfl : i = 0 := by omega
  have h3 := (List.append_eq_nil_iff.1 h2).1
  exact .inl ⟨rfl, h3⟩
 ·
  cases h1
  exact .inr ⟨g, i, c, post ++ rest, fz, rfl, by rw [← List.append_assoc]; exact hh, hl, by omega, hcm, by rw [← List.append_assoc]; exact hal, hfz⟩
end Go.Fw
namespace Go.Proofs.YtfanmpbapabboaaDoor
open Go.RowKit Go.Fw Go.Pl Go.Sort
def metL (M : List Dig) : List (Dig × Nat) := M.zipIdx
def metE (p : Dig × Nat) : MapEntry := { key := digV p.1, val := .int .i64 (p.2 : Int), born := p.2 }
theorem metL_length (M : List Dig) : (metL M).length = M.length := List.length_zipIdx
theorem metL_app (M : List Dig) (d : Dig) : metL (M ++ [d]) = metL M ++ [(d, M.length)] := by simp [metL, List.zipIdx_append]
theorem metL_mem {M : List Dig} {d : Dig} : d ∈ M ↔ ∃ p ∈ metL M, p.1 = d := by
 constructor
 ·
  intro h
  obtain ⟨i, hi⟩ := List.mem_iff_getElem?.1 h
  exact ⟨(d, i), List.mem_iff_getElem?.2 ⟨i, by rw [metL, List.getElem?_zipIdx, hi]; simp⟩, rfl⟩
 ·
  rintro ⟨p, hp, rfl⟩
  obtain ⟨i, hi⟩ := List.mem_iff_getElem?.1 hp
  rw [metL, List.getElem?_zipIdx] at hi
  obtain ⟨x, hx, rfl⟩ := Option.map_eq_some_iff.1 hi
  exact List.mem_of_getElem? hx
theorem met_find (M : List Dig) (d : Dig) : (mfind Prod.fst d (metL M) 0).isSome = decide (d ∈ M) := by
 cases h : mfind Prod.fst d (metL M) 0 with
 | none =>
  refine (decide_eq_false fun hd => ?_).symm
  obtain ⟨p, hp, he⟩ := metL_mem.1 hd
  exact mfind_none h p hp he
 | some p =>
  obtain ⟨j, q⟩ := p
  obtain ⟨_, hj, hk⟩ := mfind_some h
  refine (decide_eq_true ?_).symm
  exact metL_mem.2 ⟨q, List.mem_of_getElem? hj, hk⟩
theorem met_no {M : List Dig} {d : Dig} (h : (mfind Prod.fst d (metL M) 0).isSome ≠ true) : mfind Prod.fst d (metL M) 0 = none ∧ d ∉ M := by
 rw [met_find] at h
 refine ⟨?_, by simpa using h⟩
 cases hp : mfind Prod.fst d (metL M) 0 with
 | none => rfl
 | some p => exact absurd (by rw [← met_find, hp]; rfl) h
theorem take_filt {l : List Dig} {i : Nat} {d : Dig} (M : List Dig) (h : l[i]? = some d) : (l.take (i + 1)).filter (fun d => decide (d ∈ M)) = (l.take i).filter (fun d => decide (d ∈ M)) ++ if d ∈ M then [d] else [] := by
 rw [take_succ h, List.filter_append]
 by_cases hd : d ∈ M <;> simp [hd]
theorem info_ssR : ∃ i : TypeInfo, Tryd.prog.info? TSs = some i ∧ i.zero = some (.slice none 0 0) := by
 have h : (Tryd.prog.info? TSs).map (fun i => i.zero) = some (some (.slice none 0 0)) := by kernel_rfl
 cases hi : Tryd.prog.info? TSs with
 | none => simp [hi] at h
 | some i => simp [hi] at h; exact ⟨i, rfl, h⟩
theorem filt_len {l : List Dig} {i : Nat} (M : List Dig) : ((l.take i).filter fun d => decide (d ∈ M)).length ≤ l.length := by
 refine Nat.le_trans (List.length_filter_le _ _) ?_
 rw [List.length_take]
 omega
theorem dclone_any (v : Value) (l : List Dig) (w : World) (hl : Sl w digC 32 v l) (hs : l.length * 32 ≤ 140737488355328) : Calls Tryd.prog 11 #[v] w (Ret fun r w' => Own w' TDg 32 r (flatD l) ∧ (∀ k, r.ownBlock = some k → w.heap.size ≤ k) ∧ Ext w w') := by
 obtain ⟨A, m, c, rfl, hm, hmc, hcm, hux⟩ := id hl
 unfold maxLen at hcm
 refine calls_of_CW 8 [2] [(0, .slice A m c)] Tryd.func11 rfl rfl rfl (by simp) args1 ?_
 have hE : Ext w w := Chg.refl
 refine CW.sr fun K1 hK1 => ?_
 refine WL.a rfl ?_
 refine WL.nil (hK1 _ _ ?_); try clear hK1
 refine CW.seq fun K2 hK2 => ?_
 refine CW.sr fun K3 hK3 => ?_
 refine WL.m rfl ?_
 refine WL.v (Y.eql_snil Tryd.underlying23 rfl) ?_
 refine WL.nil (hK3 _ _ ?_); try clear hK3
 (first | refine cd_ rfl ?_ ?_ | refine ce_ rfl ?_ ?_ | refine cn_ rfl ?_ ?_ | refine cb_ rfl ?_ ?_) <;> intro ht4
 ·
  -- then
  refine CW.sr fun K5 hK5 => ?_
  refine WL.a rfl ?_
  refine WL.nil (hK5 _ _ ?_); try clear hK5
  refine CW.ret ⟨_, rfl, ?_⟩
  have hA : A = none := by simpa using ht4
  subst hA
  have hl0 : l = [] := by
   cases l with
   | nil => rfl
   | cons d l => obtain ⟨a, ha, _⟩ := hux 0 d rfl; cases ha
  subst hl0
  exact ⟨Own.nil, fun k hk => by simp [Value.ownBlock] at hk, hE⟩
 refine CW.skip ?_
 refine hK2 _ _ ?_; try clear hK2
 refine CW.sr fun K6 hK6 => ?_
 refine WL.st (St.buildSlice0 Tryd.underlying23 sz0_apiDigest) de_ fun v5 w1 hR1 => ?_
 obtain ⟨g5, rfl, hg5, hO1, hx1⟩ := hR1
 have hz1 := hx1.size
 have hE := hE.thenExt hx1
 refine WL.m rfl ?_
 refine WL.st (St.append (news := flatD l) Tryd.underlying23 Tryd.underlying23 ai_dig rfl rfl hO1 ((hl.ext hE).src digC_length) (one_flatDs l) (by simp only [List.length_nil]; omega)) de_ fun v7 w2 hR2 => ?_
 obtain ⟨hO2, hc2, hf2⟩ := hR2
 have hz2 := hc2.size
 have hE := hE.step hc2 (fun k h => by simp [Value.ownBlock] at h; omega)
 refine WL.a rfl ?_
 refine WL.nil (hK6 _ _ ?_); try clear hK6
 refine CW.ret ⟨_, rfl, ?_⟩
 exact ⟨by simpa using hO2, fun k hk => by rcases hf2 with h | h; (rw [h] at hk; simp [Value.ownBlock] at hk; omega); (have := h k hk; omega), hE⟩
set_option maxRecDepth 100000 in
set_option maxHeartbeats 4000000 in
theorem reach_any (u v : Value) (xs : List (List UInt8)) (hs : List Dig) (w : World) (hu : Sl w strC 1 u xs) (hsx : ∀ x ∈ xs, x.length ≤ 140737488351232) (hv : Sl w digC 32 v hs) (hsh : hs.length * 32 ≤ 140737488355328) (hK : Mem w ⟨0, 0, none⟩ (wds keysL)) : Calls Tryd.prog 4 #[u, v] w (Ret fun r w' => ∃ p e ys, r = .tuple #[p, .int .i64 e] ∧ RcP xs hs ys e ∧ Own w' TStr 1 p (flatS ys) ∧ Ext w w') := by
 have hk0 : (0 : Nat) < w.heap.size := hK.lt (fun h => by cases h)
 obtain ⟨si, hsi, hsz⟩ := info_ssR
 refine calls_of_CN 93 [4, 5] [(0, u), (1, v)] Tryd.func4 rfl rfl rfl (by simp) args2 ?_
 have hE : Ext w w := Chg.refl
 refine CN.seq fun K1 hK1 => ?_
 refine CN.of_CW ?_
 refine CW.region ?_
 refine WL.val (Y.assign rfl) dx_ ?_
 refine WL.val (Y.assign rfl) dx_ ?_
 refine WL.nil ?_
 refine hK1 _ _ _ ?_; try clear hK1
 refine CN.seq fun K2 hK2 => ?_
 refine CN.of_CW ?_
 refine CW.region ?_
 refine WL.val (Y.move rfl) dx_ ?_
 refine WL.call Tryd.func10 rfl rfl rfl (taken_any u xs _ hu hsx hK) (by simp) ?_; rintro v23 w1 hR1
 obtain ⟨p, e, rfl, hbad, hgood, hx1⟩ := hR1
 have hz1 := hx1.size
 have hE := hE.thenExt hx1
 refine WL.val (Y.move rfl) dx_ ?_
 refine WL.val (Y.extract rfl rfl) dx_ ?_
 refine WL.val (Y.extract rfl rfl) dx_ ?_
 refine WL.val (Y.assign rfl) dx_ ?_
 refine WL.val (Y.assign rfl) dx_ ?_
 refine WL.nil ?_
 refine hK2 _ _ _ ?_; try clear hK2
 refine CN.seq fun K3 hK3 => ?_
 refine CN.seq fun K4 hK4 => ?_
 refine CN.of_CW ?_
 refine CW.region ?_
 refine WL.val (Y.move rfl) dx_ ?_
 refine WL.val (Y.neq rfl rfl) dx_ ?_
 refine WL.nil ?_
 refine hK4 _ _ _ ?_; try clear hK4
 first | refine CN.condD rfl (fun ht5 => ?_) (fun ht5 => ?_) | refine CN.condND rfl (fun ht5 => ?_) (fun ht5 => ?_) | refine CN.condN rfl (fun ht5 => ?_) (fun ht5 => ?_) | refine CN.cond rfl (fun ht5 => ?_) (fun ht5 => ?_)
 ·
  -- then
  refine CN.seq fun K6 hK6 => ?_
  refine CN.of_CW ?_
  refine CW.region ?_
  refine WL.val (Y.move rfl) dx_ ?_
  refine WL.val (Y.assign rfl) dx_ ?_
  refine WL.val (Y.assign rfl) dx_ ?_
  refine WL.nil ?_
  refine hK6 _ _ _ ?_; try clear hK6
  refine CN.ret ?_
  exact ⟨[], rfl, by simp, (fun D hD => by simp at hD), _, rfl, fun w_ hc => ⟨_, _, _, rfl, .inl ⟨(hbad (by assumption)).1, rfl⟩, Own.nil, hE.step hc (fun k h => by simp at h)⟩⟩
 refine CN.skip ?_
 refine hK3 _ _ _ ?_; try clear hK3
 refine CN.seq fun K7 hK7 => ?_
 refine CN.of_CW ?_
 obtain ⟨gs, rs, l, rfl, hT, hH, hsht, hgs, hrs, hef⟩ := hgood (Decidable.not_not.1 (by assumption))
 have hfew := hT.few
 have hE0 := hE
 have hE : Ext w1 w1 := Chg.refl
 refine CW.region ?_
 refine WL.st (St.makeMap) dx_ fun v29 w2 hR2 => ?_
 obtain ⟨rm, rfl, hrm, hM0, hx2⟩ := hR2
 have hz2 := hx2.size
 have hE := hE.thenExt hx2
 have hM : MapAt w2 rm metE (metL []) ([] : List Dig).length := hM0 _ _
 have hrl := hM.lt
 refine WL.allocStore1 kr_ rfl (by simp) rfl rfl dx_ fun g8 w3 hx3 hg8 hB8 => ?_
 have hlt8 := hB8.lt; have hz3 := hx3.size
 have hM8 := hB8.mem; have hz3 := hx3.size; have hE := hE.thenExt hx3
 refine WL.nil ?_
 refine hK7 _ _ _ ?_; try clear hK7
 refine CN.seq fun K8 hK8 => ?_
 refine CN.of_CW ?_
 refine CW.region ?_
 refine WL.val (Y.move rfl) dx_ ?_
 refine WL.call Tryd.func11 rfl rfl rfl (dclone_any v hs _ (hv.ext (hE0.thenExt hE)) hsh) (by simp) ?_; rintro v31 w4 hR4
 obtain ⟨hD, hDf, hx4⟩ := hR4
 have hz4 := hx4.size
 have hE := hE.thenExt hx4
 have hB8 := hB8.ext hx4
 refine WL.val (Y.assign rfl) dx_ ?_
 refine WL.nil ?_
 refine hK8 _ _ _ ?_; try clear hK8
 refine CN.seq fun K9 hK9 => ?_
 refine CN.block ?_
 refine CN.of_CW ?_
 refine CW.loop (X := Value × List Dig × List Dig) (fun x => [(6, .pointer (some ⟨gs, 0, none⟩)), (8, .pointer (some ⟨g8, 0, none⟩)), (9, x.1)]) (fun x w0 => Own w0 TDg 32 x.1 (flatD x.2.2) ∧ (∀ k, x.1.ownBlock = some k → w3.heap.size ≤ k) ∧ Met l hs x.2.1 x.2.2 ∧ x.2.2.length ≤ hs.length + 8 * x.2.1.length ∧ MapAt w0 rm metE (metL x.2.1) x.2.1.length ∧ Blk w0 g8 39 [.map (some rm)] ∧ Ext w1 w0 ∧ w3.heap.size ≤ w0.heap.size) (fun x => (l.length - x.2.1.length) * 9 + x.2.2.length) (v31, [], hs) Fr.ok ⟨hD, hDf, Met.begin hs, by simp, hM.ext (hx3.thenExt hx4), hB8, hE, by omega⟩ ?_
 intro x w5 hl5
 clear hD hM hB8 hM8 hE hM0
 obtain ⟨tv, M, D⟩ := x
 dsimp only at hl5 ⊢
 obtain ⟨hD, htf, hMt, hTl, hM, hB8, hE, hz35⟩ := hl5
 obtain ⟨A9, m9, c9, rfl⟩ := hD.lens
 obtain ⟨hm9, hmc9, _⟩ := Own.len digC_length de_ hD
 have hmf := hMt.few hH.keys
 have hmx9 : m9 ≤ 9000000000000000000 := by omega
 have hzE := hE.size
 have hDl := hD.lt
 have hml := hM.lt
 refine CW.seq fun K10 hK10 => ?_
 refine CW.sr fun K11 hK11 => ?_
 refine WL.val (Y.move rfl) dx_ ?_
 refine WL.val (Y.len_slice Tryd.underlying23 rfl) dx_ ?_
 refine WL.val (Y.gtr rfl rfl) dx_ ?_
 refine WL.nil (hK11 _ _ ?_); try clear hK11
 (first | refine cd_ rfl ?_ ?_ | refine ce_ rfl ?_ ?_ | refine cn_ rfl ?_ ?_ | refine cb_ rfl ?_ ?_) <;> intro ht12
 ·
  -- then
  refine CW.skip ?_
  refine hK10 _ _ ?_; try clear hK10
  refine CW.block ?_
  refine CW.seq fun K13 hK13 => ?_
  obtain ⟨D, d, rfl⟩ : ∃ E d, D = E ++ [d] := by
   rcases List.eq_nil_or_concat D with h | ⟨E, d, h⟩
   ·
    subst h; simp at hm9; omega
   ·
    exact ⟨E, d, by rw [h, List.concat_eq_append]⟩
  rw [List.length_append, List.length_singleton] at hm9
  obtain ⟨a9, rfl, hmd⟩ := (hD.sl digC_length de_).at (show (D ++ [d])[D.length]? = some d by simp)
  have hTl2 : D.length + 1 ≤ hs.length + 8 * M.length := by
   have h : (D ++ [d]).length ≤ hs.length + 8 * M.length := hTl
   rw [List.length_append, List.length_singleton] at h
   exact h
  refine CW.region ?_
  refine WL.val (Y.move rfl) dx_ ?_
  refine WL.val (Y.move rfl) dx_ ?_
  refine WL.val (Y.len_slice Tryd.underlying23 rfl) dx_ ?_
  refine WL.val (Y.sub rfl rfl o2_) dx_ ?_
  rw [show ((m9 : Int) - 1) = (D.length : Int) from by omega]
  refine WL.val (Y.indexAddrN Tryd.underlying23 rfl rfl sz0_apiDigest om_) dx_ ?_
  refine WL.val (Y.load Tryd.underlying30 rfl hmd (sz_apiDigest _) rfl) dx_ ?_
  refine as_apiDigest rfl (by simp) dx_ fun g10 w6 hx6 hg10 hB10 => ?_
  have hlt10 := hB10.lt; have hz6 := hx6.size
  have hM10 := hB10.mem; have hz6 := hx6.size; have hE := hE.thenExt hx6; have hB8 := hB8.ext hx6
  refine WL.nil (hK13 _ _ ?_); try clear hK13
  refine CW.sr fun K14 hK14 => ?_
  refine WL.val (Y.move rfl) dx_ ?_
  refine WL.val (Y.move rfl) dx_ ?_
  refine WL.val (Y.len_slice Tryd.underlying23 rfl) dx_ ?_
  refine WL.val (Y.sub rfl rfl o2_) dx_ ?_
  rw [show ((m9 : Int) - 1) = (D.length : Int) from by omega]
  refine WL.val (Y.slice_hi Tryd.underlying23 rfl rfl sz0_apiDigest rfl om_) dx_ ?_
  refine WL.val (Y.assign rfl) dx_ ?_
  refine WL.nil (hK14 _ _ ?_); try clear hK14
  refine CW.seq fun K15 hK15 => ?_
  refine CW.sr fun K16 hK16 => ?_
  refine WL.val (Y.load1 Tryd.underlying39 rfl hB8.mem.cell0 rfl) dx_ ?_
  refine WL.val (Y.load Tryd.underlying30 rfl hB10.mem (sz_apiDigest _) rfl) dx_ ?_
  refine WL.val (Y.lookupOk keyDig (fun _ => rfl) Tryd.underlying39 zero_int rfl rfl (hM.ext hx6)) dx_ ?_
  refine WL.val (Y.move rfl) dx_ ?_
  refine WL.val (Y.extract rfl rfl) dx_ ?_
  refine WL.val (Y.extract rfl rfl) dx_ ?_
  refine WL.val (Y.assign rfl) dx_ ?_
  refine WL.val (Y.assign rfl) dx_ ?_
  refine WL.nil (hK16 _ _ ?_); try clear hK16
  refine CW.sr fun K17 hK17 => ?_
  refine WL.val (Y.move rfl) dx_ ?_
  refine WL.nil (hK17 _ _ ?_); try clear hK17
  (first | refine cd_ rfl ?_ ?_ | refine ce_ rfl ?_ ?_ | refine cn_ rfl ?_ ?_ | refine cb_ rfl ?_ ?_) <;> intro ht18
  ·
   -- then
   refine CW.exit ?_
   have hdM : d ∈ M := by
    have h := ht18
    rw [met_find] at h
    simpa using h
   refine ⟨(.slice (some a9) D.length c9, M, D), by show (l.length - M.length) * 9 + D.length < (l.length - M.length) * 9 + (D ++ [d]).length; simp, Fr.ok, (Own.cutTo (post := digC d) (by simpa [flatD] using hD) (by rw [flat_length digC_length]) om_).ext hx6, htf, hMt.skip hdM, ?_, hM.ext hx6, hB8, hE, by omega⟩
   show D.length ≤ hs.length + 8 * M.length
   have h : (D ++ [d]).length ≤ hs.length + 8 * M.length := hTl
   rw [List.length_append] at h; omega
  refine CW.skip ?_
  refine hK15 _ _ ?_; try clear hK15
  refine CW.sr fun K19 hK19 => ?_
  refine WL.val (Y.move rfl) dx_ ?_
  refine WL.val (Y.load Tryd.underlying30 rfl hB10.mem (sz_apiDigest _) rfl) dx_ ?_
  refine WL.call Tryd.func12 rfl rfl rfl (stGet_any gs rs l d _ (hT.ext hE)) (by simp) ?_; rintro v56 w7 hR7
  obtain ⟨bv, rfl, hb, hbf, hx7⟩ := hR7
  have hz7 := hx7.size
  have hE := hE.thenExt hx7
  have hB8 := hB8.ext hx7
  have hB10 := hB10.ext hx7
  have hM := (hM.ext hx6).ext hx7
  have hD := (hD.ext hx6).ext hx7
  refine WL.val (Y.move rfl) dx_ ?_
  refine WL.val (Y.extract rfl rfl) dx_ ?_
  refine WL.val (Y.extract rfl rfl) dx_ ?_
  refine WL.val (Y.assign rfl) dx_ ?_
  refine WL.val (Y.assign rfl) dx_ ?_
  refine WL.nil (hK19 _ _ ?_); try clear hK19
  refine CW.seq fun K20 hK20 => ?_
  refine CW.sr fun K21 hK21 => ?_
  refine WL.val (Y.move rfl) dx_ ?_
  refine WL.val (Y.neq rfl rfl) dx_ ?_
  refine WL.nil (hK21 _ _ ?_); try clear hK21
  (first | refine cd_ rfl ?_ ?_ | refine ce_ rfl ?_ ?_ | refine cn_ rfl ?_ ?_ | refine cb_ rfl ?_ ?_) <;> intro ht22
  ·
   -- then
   refine CW.sr fun K23 hK23 => ?_
   refine WL.val (Y.assign rfl) dx_ ?_
   refine WL.val (Y.assign rfl) dx_ ?_
   refine WL.nil (hK23 _ _ ?_); try clear hK23
   refine CW.ret ?_
   exact ⟨[], rfl, by simp, (fun D hD => by simp at hD), _, rfl, fun w_ hc => ⟨_, _, _, rfl, rcP_bad hH hsht hfew (hMt.rch d (.inr (by simp))) (okD_none (by assumption)), Own.nil, (hE0.thenExt hE).step hc (fun k h => by simp at h)⟩⟩
  refine CW.skip ?_
  refine hK20 _ _ ?_; try clear hK20
  refine CW.sr fun K24 hK24 => ?_
  refine WL.val (Y.move rfl) dx_ ?_
  refine WL.call Tryd.func13 rfl rfl rfl (decode_any bv (getB l d) _ hb.by) (by simp) ?_; rintro v63 w8 hR8
  obtain ⟨pv, ov, rfl, hx8, hP, hOv, hpf, _⟩ := hR8
  obtain ⟨Ap, mp, cp, rfl, hpm, _⟩ := id hP
  obtain ⟨Ao, mo, co, rfl, _⟩ := hOv
  have hz8 := hx8.size
  have hE := hE.thenExt hx8
  have hB8 := hB8.ext hx8
  have hB10 := hB10.ext hx8
  have hM := hM.ext hx8
  have hD := hD.ext hx8
  refine WL.val (Y.move rfl) dx_ ?_
  refine WL.val (Y.extract rfl rfl) dx_ ?_
  refine WL.val (Y.extract rfl rfl) dx_ ?_
  refine as_apiCommit rfl (by simp) dx_ fun g15 w9 hx9 hg15 hB15 => ?_
  have hlt15 := hB15.lt; have hz9 := hx9.size
  have hM15 := hB15.mem; have hz9 := hx9.size; have hE := hE.thenExt hx9; have hB8 := hB8.ext hx9; have hB10 := hB10.ext hx9
  refine WL.val (Y.assign rfl) dx_ ?_
  refine WL.nil (hK24 _ _ ?_); try clear hK24
  refine CW.seq fun K25 hK25 => ?_
  refine CW.sr fun K26 hK26 => ?_
  refine WL.val (Y.move rfl) dx_ ?_
  refine WL.val (Y.neq rfl rfl) dx_ ?_
  refine WL.nil (hK26 _ _ ?_); try clear hK26
  (first | refine cd_ rfl ?_ ?_ | refine ce_ rfl ?_ ?_ | refine cn_ rfl ?_ ?_ | refine cb_ rfl ?_ ?_) <;> intro ht27
  ·
   -- then
   refine CW.sr fun K28 hK28 => ?_
   refine WL.val (Y.assign rfl) dx_ ?_
   refine WL.val (Y.assign rfl) dx_ ?_
   refine WL.nil (hK28 _ _ ?_); try clear hK28
   refine CW.ret ?_
   exact ⟨[], rfl, by simp, (fun D hD => by simp at hD), _, rfl, fun w_ hc => ⟨_, _, _, rfl, rcP_bad hH hsht hfew (hMt.rch d (.inr (by simp))) (okD_bad (by assumption)), Own.nil, (hE0.thenExt hE).step hc (fun k h => by simp at h)⟩⟩
  refine CW.skip ?_
  refine hK25 _ _ ?_; try clear hK25
  refine CW.sr fun K29 hK29 => ?_
  refine WL.val (Y.load1 Tryd.underlying39 rfl hB8.mem.cell0 rfl) dx_ ?_
  refine WL.val (Y.load Tryd.underlying30 rfl hB10.mem (sz_apiDigest _) rfl) dx_ ?_
  refine WL.val (Y.load1 Tryd.underlying39 rfl hB8.mem.cell0 rfl) dx_ ?_
  refine WL.val (Y.len_map Tryd.underlying39 rfl (hM.ext hx9)) dx_ ?_
  refine WL.su (Su.mapNew keyDig (fun _ => rfl) Tryd.underlying39 rfl rfl rfl (hM.ext hx9) (met_no (by simpa using ht18)).1 (b := (d, M.length)) (by rw [metL_length]; rfl)) fun w10 hR10 => ?_
  obtain ⟨hM10, hc10⟩ := hR10
  have hz10 := hc10.size
  have hE := hE.step hc10 (fun k h => by omega)
  have hdM := (met_no (M := M) (d := d) (by simpa using ht18)).2
  have hok : okD l d := okD_good (by assumption) (by assumption)
  have hpl := parD_few hok
  change (decC (getB l d)).parents.length ≤ 8 at hpl
  have hB8 := hB8.chg hc10 no_
  have hB15 := hB15.chg hc10 no_
  have hP := (hP.ext hx9).chg hc10 (fun k hk h => by have := hpf k hk; omega)
  have hD := ((Own.cutTo (post := digC d) (i := D.length) (by simpa [flatD] using hD) (by rw [flat_length digC_length]) om_).ext hx9).chg hc10 (fun k hk h => by have := htf k hk; omega)
  refine WL.nil (hK29 _ _ ?_); try clear hK29
  refine CW.region ?_
  refine WL.val (Y.move rfl) dx_ ?_
  refine WL.val (Y.fieldAddr fo_apiCommit0 rfl) dx_ ?_
  refine WL.val (Y.load1 Tryd.underlying23 rfl hB15.mem.com0 rfl) dx_ ?_
  refine WL.st (St.appendW Tryd.underlying23 Tryd.underlying23 ai_dig rfl rfl hD (hP.src digC_length) (one_flatDs _) de_ (by rw [flat_length digC_length]; omega)) dx_ fun v75 w11 hR11 => ?_
  obtain ⟨hD11, hc11, hf11⟩ := hR11
  have hz11 := hc11.size
  have hE := hE.step hc11 (fun k h => by have := htf k h; omega)
  refine WL.val (Y.assign rfl) dx_ ?_
  refine WL.nil ?_
  have hst := hMt.step hdM hok
  have hsf := hst.few hH.keys
  rw [List.length_append, List.length_singleton] at hsf
  refine ⟨(v75, M ++ [d], D ++ parD l d), ?_, Fr.ok, by simpa [flatD, parD] using hD11, fun k hk => ?_, hst, ?_, ?_, hB8.chg hc11 (fun h => by have := htf _ h; omega), hE, by omega⟩
  ·
   show (l.length - (M ++ [d]).length) * 9 + (D ++ parD l d).length < (l.length - M.length) * 9 + (D ++ [d]).length
   rw [List.length_append, List.length_append, List.length_append, List.length_singleton, parD]; omega
  ·
   rcases hf11 with h | h
   ·
    rw [h] at hk; exact htf k hk
   ·
    have := h k hk; omega
  ·
   show (D ++ parD l d).length ≤ hs.length + 8 * (M ++ [d]).length
   have h : (D ++ [d]).length ≤ hs.length + 8 * M.length := hTl
   rw [List.length_append, List.length_singleton] at h
   rw [List.length_append, List.length_append, List.length_singleton, parD]; omega
  ·
   have h := hM10.chg hc11 (fun h => by have := htf _ h; omega)
   show MapAt w11 rm metE (metL (M ++ [d])) (M ++ [d]).length
   rw [metL_app, List.length_append, List.length_singleton]
   exact h
 refine CW.exit ?_
 refine hK9 _ _ _ ?_; try clear hK9
 refine CN.seq fun K30 hK30 => ?_
 refine CN.of_CW ?_
 refine CW.region ?_
 refine WL.alloc (hsi) (hsz) rfl dx_ fun g16 w12 hx12 hg16 hB16 => ?_
 have hlt16 := hB16.lt; have hz12 := hx12.size
 have hM16 := hB16.mem; have hz12 := hx12.size; have hE := hE.thenExt hx12; have hB8 := hB8.ext hx12
 refine WL.nil ?_
 refine hK30 _ _ _ ?_; try clear hK30
 refine CN.seq fun K31 hK31 => ?_
 refine CN.seq fun K32 hK32 => ?_
 refine CN.of_CW ?_
 refine CW.region ?_
 refine WL.val (Y.move rfl) dx_ ?_
 refine WL.call Tryd.func14 rfl rfl rfl (sall_any ⟨gs, 0, none⟩ _) (by simp) ?_; rintro v77 w13 hR13
 obtain ⟨bx, rfl, hgb, hBb, hx13⟩ := hR13
 have hz13 := hx13.size
 have hE := hE.thenExt hx13
 have hB8 := hB8.ext hx13
 have hB16 := hB16.ext hx13
 have hM := (hM.ext hx12).ext hx13
 have hT13 := hT.ext hE
 have hrl := hM.lt
 obtain rfl : D = [] := List.eq_nil_of_length_eq_zero om_
 have hS := hMt.reach hH.keys
 refine WL.nil ?_
 refine hK32 _ _ _ ?_; try clear hK32
 refine CN.block ?_
 refine CN.range (rfl) Tryd.func26 rfl rfl (sall1_any gs rs bx l _ hT13 hBb) (fun _ => rfl) dx_ (fun _ h => h.elim) (fun w1 s V hz hs i hk => by have := hs.lo; have := hk.1; omega) (fun s i V => s.bs.length = l.length ∧ w13.heap.size + 2 ≤ s.lo ∧ s.hi ≤ V.heap.size ∧ w13.heap.size + 2 ≤ V.heap.size ∧ (∀ v ∈ s.bs, ∀ k, v.ownBlock = some k → s.lo ≤ k ∧ k < s.hi) ∧ ∃ u, Own V TStr 1 u (flatS ((((namesL l).take i).filter fun d => decide (d ∈ M)).map (getB l))) ∧ (∀ k, u.ownBlock = some k → s.hi ≤ k ∧ w13.heap.size + 2 ≤ k) ∧ Blk V g16 TSs [u] ∧ Chg (fun k => k = g16) w13 V) (fun _ _ _ => False) ?_ ?_ ?_ ?_ ?_ ?_
 ·
  intro w1_ s_ V hw_ hz_ hc_ hs_
  exact ⟨by rw [hs_.len, namesL_length], by have := hs_.lo; omega, hs_.hi, by have := hc_.size; omega, hs_.own, .slice none 0 0, Own.nil, (fun k h => by simp [Value.ownBlock] at h), (hB16.ext hw_).ext hc_, (Chg.refl.thenExt hw_).thenExt hc_⟩
 ·
  intro s_ i_ V V_ hi_ hc_
  obtain ⟨hbl, hlo, hhi, hzz, hown, u, hO_, hfu, hB16, hCC⟩ := hi_
  have := hc_.size
  exact ⟨hbl, hlo, by omega, by omega, hown, _, hO_.chg hc_ (fun k hk h => by have := hfu k hk; rcases h with h | h; exact h; omega), hfu, hB16.chg hc_ (fun h => by rcases h with h | h; exact h; omega), hCC.trans hc_ (fun k hk h => by rcases h with h | h; exact h.elim; omega)⟩
 ·
  intro s_ e_ V V_ hi_ hc_
  exact hi_.elim
 ·
  intro s_ i_ x_ w14 hi_ hx_ hat_ hz_
  obtain ⟨hbl, hlo, hhi, hzz, hown, u, hO_, hfu, hB16, hCC⟩ := hi_
  have hzc := hCC.size
  have hE := hE.step hCC (fun k h => by omega)
  have hB8 := hB8.chg hCC no_
  have hM := hM.chg hCC no_
  have hOx := hat_ x_ hx_
  obtain ⟨d, xv⟩ := x_
  dsimp only at hOx
  obtain ⟨hnd, hnv⟩ := List.getElem?_zip_eq_some.1 hx_
  have hxo := hown _ (List.mem_of_getElem? hnv)
  obtain ⟨Ax, mx, cx, rfl⟩ := hOx.lens
  obtain ⟨B, mb, cb, rfl⟩ := hO_.lens
  have hfl := filt_len (l := namesL l) (i := i_) M
  rw [namesL_length] at hfl
  refine CW.sr fun K33 hK33 => ?_
  refine as_apiDigest rfl (by simp) dx_ fun g17 w15 hx15 hg17 hB17 => ?_
  have hlt17 := hB17.lt; have hz15 := hx15.size
  have hM17 := hB17.mem; have hz15 := hx15.size; have hE := hE.thenExt hx15; have hB8 := hB8.ext hx15; have hB16 := hB16.ext hx15
  refine WL.nil (hK33 _ _ ?_); try clear hK33
  refine CW.region ?_
  refine WL.val (Y.assign rfl) dx_ ?_
  refine WL.nil ?_
  have hE_ : Ext w14 w15 := hx15
  refine ⟨hE_, fun w16 hc_ => ?_⟩
  have hzd := hc_.size
  have hE := hE.step hc_ (fun k h => by omega)
  have hB17 := hB17.chg hc_ no_
  have hB16 := hB16.chg hc_ no_
  have hB8 := hB8.chg hc_ no_
  have hM := (hM.ext hE_).chg hc_ no_
  have hO := (hO_.ext hE_).chg hc_ (fun k hk h => by have := hfu k hk; omega)
  have hOx := (hOx.ext hE_).chg hc_ (fun k hk h => by have := hxo k hk; omega)
  have hCC := (hCC.ext hE_).trans hc_ (fun k hk h => by omega)
  have hlo2 := hO_.lt
  refine CW.block ?_
  refine CW.sr fun K34 hK34 => ?_
  refine WL.val (Y.load1 Tryd.underlying39 rfl hB8.mem.cell0 rfl) dx_ ?_
  refine WL.val (Y.load Tryd.underlying30 rfl hB17.mem (sz_apiDigest _) rfl) dx_ ?_
  refine WL.val (Y.lookupOk keyDig (fun _ => rfl) Tryd.underlying39 zero_int rfl rfl hM) dx_ ?_
  refine WL.val (Y.move rfl) dx_ ?_
  refine WL.val (Y.extract rfl rfl) dx_ ?_
  refine WL.val (Y.extract rfl rfl) dx_ ?_
  refine WL.val (Y.assign rfl) dx_ ?_
  refine WL.val (Y.assign rfl) dx_ ?_
  refine WL.nil (hK34 _ _ ?_); try clear hK34
  refine CW.sr fun K35 hK35 => ?_
  refine WL.val (Y.move rfl) dx_ ?_
  refine WL.nil (hK35 _ _ ?_); try clear hK35
  (first | refine cd_ rfl ?_ ?_ | refine ce_ rfl ?_ ?_ | refine cn_ rfl ?_ ?_ | refine cb_ rfl ?_ ?_) <;> intro ht36
  ·
   -- then
   refine CW.region ?_
   refine WL.val (Y.load1 Tryd.underlying22 rfl hB16.mem.cell0 rfl) dx_ ?_
   refine WL.val (Y.move rfl) dx_ ?_
   refine WL.val (Y.bytes_string Tryd.underlying32 Tryd.underlying5 Tryd.underlying9 rfl hOx.by.len.1 hOx.by.mem.1 hOx.by.mem.2) dx_ ?_
   refine WL.st (St.buildSlice rfl (bs1_str _)) dx_ fun v90 w17 hR17 => ?_
   obtain ⟨g90, rfl, hg90, hB90, hx17⟩ := hR17
   have hz17 := hx17.size
   have hE := hE.thenExt hx17
   have hB8 := hB8.ext hx17
   have hB16 := hB16.ext hx17
   have hB17 := hB17.ext hx17
   have hO := hO.ext hx17
   have hS2 : Chg (fun k => k = g16 ∨ (Value.slice B mb cb).ownBlock = some k) w16 w17 := hx17.chg
   refine WL.st (St.append Tryd.underlying22 Tryd.underlying22 ai_str rfl rfl hO (Src.one hB90 rfl) (one1 rfl) (by rw [flat_length strC_length, List.length_map]; omega)) dx_ fun v91 w18 hR18 => ?_
   obtain ⟨hO18, hc18, hf18⟩ := hR18
   have hz18 := hc18.size
   have hE := hE.step hc18 (fun k h => by have := hfu k h; omega)
   have hS2 := hS2.trans hc18 (fun k _ h => .inr h)
   have hB16 := hB16.chg hc18 (fun h => by have := hfu _ h; omega)
   have hB8 := hB8.chg hc18 (fun h => by have := hfu _ h; omega)
   have hB17 := hB17.chg hc18 (fun h => by have := hlo2 _ h; omega)
   obtain ⟨C, mc, cc, rfl⟩ := hO18.lens
   have hfn : ∀ k, (Value.slice C mc cc).ownBlock = some k → s_.hi ≤ k ∧ w13.heap.size + 2 ≤ k := by
    rcases hf18 with h | h
    ·
     intro k hk; rw [h] at hk; exact hfu k hk
    ·
     intro k hk; have := h k hk; omega
   refine WL.store (g := g16) (pre := []) (old := [.slice B mb cb]) (post := []) (new := [.slice C mc cc]) rfl rfl rfl rfl kr_ (by simpa using hB16) ln_ (one1 rfl) (fun w19 hc19 hB19_ => ?_)
   have hz19 := hc19.size; have hE := hE.step hc19 (fun k h => by omega); have hB8 := hB8.chg hc19 no_; have hB17 := hB17.chg hc19 no_
   have hBn : Blk w19 g16 TSs [.slice C mc cc] := by simpa using hB19_
   have hOn := hO18.chg hc19 (fun k hk h => by have := hfn k hk; omega)
   have hS2 := hS2.trans hc19 (fun k _ h => .inl h)
   have hzS := hS2.size
   have hCC := hCC.trans hS2 (fun k hk h => by rcases h with h | h; exact h; have := hfu k h; omega)
   refine WL.nil ?_
   have hdM : d ∈ M := by
    have h := ht36
    rw [met_find] at h
    simpa using h
   refine ⟨⟨hbl, hlo, by omega, by omega, hown, _, ?_, hfn, hBn, hCC⟩, hS2.mono fun k _ h => ⟨fun hk => ?_, ?_, ?_⟩⟩
   ·
    rw [take_filt M hnd, if_pos hdM, List.map_append]
    simpa [flatS, strC] using hOn
   ·
    rcases h with h | h
    ·
     have := hk.1; omega
    ·
     have := hfu k h; have := hk.2.1; omega
   ·
    rcases h with h | h
    ·
     omega
    ·
     have := hfu k h; omega
   ·
    rcases h with h | h
    ·
     omega
    ·
     have := hfu k h; omega
  refine CW.skip ?_
  have hdM : d ∉ M := (met_no (M := M) (d := d) (by simpa using ht36)).2
  exact ⟨⟨hbl, hlo, by omega, by omega, hown, _, by rw [take_filt M hnd, if_neg hdM, List.append_nil]; exact hO, hfu, hB16, hCC⟩, Chg.refl⟩
 ·
  intro s_ w20 hi_ hD_ hfin_
  obtain ⟨hbl, hlo, hhi, hzz, hown, u, hO_, hfu, hB16, hCC⟩ := hi_
  have hxl : (allXs l s_).length = l.length := by simp only [allXs, List.length_zip, namesL_length, hbl]; omega
  rw [hxl, ← namesL_length l, List.take_length] at hO_
  have hzc := hCC.size
  have hE := hE.step hCC (fun k h => by omega)
  refine hK31 _ _ _ ?_; try clear hK31
  refine CN.seq fun K37 hK37 => ?_
  refine CN.of_CW ?_
  refine CW.region ?_
  refine WL.val (Y.load1 Tryd.underlying22 rfl hB16.mem.cell0 rfl) dx_ ?_
  refine WL.val (Y.assign rfl) dx_ ?_
  refine WL.val (Y.assign rfl) dx_ ?_
  refine WL.nil ?_
  refine hK37 _ _ _ ?_; try clear hK37
  refine CN.ret ?_
  exact ⟨[w13.heap.size], rfl, by simp, (fun D hD => by simp at hD; subst hD; exact hD_), _, rfl, fun w_ hc => ⟨_, _, _, rfl, rcP_good hH hsht hfew hS, hO_.chg hc (fun k hk h => by have := hfu k hk; simp at h; omega), (hE0.thenExt hE).step hc (fun k h => by simp at h; omega)⟩⟩
 ·
  intro s_ e_ w21 hi_ hD_ hfin_ he_
  exact hi_.elim
end Go.Proofs.YtfanmpbapabboaaDoor
