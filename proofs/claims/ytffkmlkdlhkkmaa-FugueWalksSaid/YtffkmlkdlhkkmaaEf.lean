/- FugueWalks, walked. No condition. -/
import Derived.Test.YtffkmlkdlhkkmaaEb
import Derived.Test.YtffkmlkdlhkkmaaFi
import Derived.Test.YtffkmlkdlhkkmaaQw
import Derived.Test.YtffkmlkdlhkkmaaEj
set_option linter.unusedSimpArgs false
set_option linter.unusedVariables false
namespace Go.Fw
open Go.RowKit
section
variable {P : Program} {n : NN} {fr : Fr} {w : World} {ty : TypeId}
theorem St.allocO {t : TypeId} {z : Value} (hI : (P.info? t).map (fun i => i.zero) = some (some z)) (hz : z.cells = #[z]) : St P n fr (.alloc t) ty w (fun v w' => ∃ g, v = .pointer (some ⟨g, 0, none⟩) ∧ w.heap.size ≤ g ∧ Blk w' g t [z] ∧ Ext w w') := fun a o' ho hty ha => by
  obtain ⟨i, hi, hp⟩ := Option.map_eq_some_iff.1 hI
  refine ⟨_, w.alloc (.cells [z].toArray t), ?_, w.heap.size, rfl, Nat.le_refl _, Blk.new w t [z], Chg.alloc _⟩
  simp [execOp, ho, Instr.alloc, zeroValue, typeInfo, hi, hp, newVar, newRow, hz]
theorem evs_tmp {t : Nat} {v : Value} (h : fr.get t = some v) : evs fr [.tmp t] = some [v] := by simp [evs, ev, h]
end
theorem ne_nil_of {α : Type} {l : List α} (h : l.isEmpty = false) : l ≠ [] := by rintro rfl; cases h
theorem not_mem_of {l : List Nat} {i : Nat} (h : l.contains i = false) : ¬ i ∈ l := fun hm => by simp [hm] at h
end Go.Fw
namespace Go.Proofs.Ytffkmlkdlhkkmaa
open Go.RowKit Go.Fw Go.Fu Go.Pl
theorem AllN.chg {ns : List Nn} {e : List El} {w w' : World} {S : Nat → Prop} (h : AllN ns e w) (hc : Chg S w w') (hs : ∀ q ∈ seenE e, ¬ S (gOf ns q)) : AllN ns e w' := fun q hq => by
  obtain ⟨gn, lv, rv, hb⟩ := h q hq
  exact ⟨gn, lv, rv, hb.chg hc (hs q hq)⟩
theorem AllN.add {w : World} {g rb ra : Nat} {ad ad' : List Dig} {ns ns2 : List Nn} {id : Dig} {ops : List OpD} (hT : FtAt w g rb ra ad' ns2) (he : Fw.els ns2 = (addT ⟨ad, Fw.els ns⟩ id ops).e) (hg : ∀ c, c < ns.length → gOf ns2 c = gOf ns c) (hG : Fu.Good (Fw.els ns)) : AllN ns (Fw.els ns) w := fun q hq => by
  have hel : (Fw.els ns).length = ns.length := List.length_map _
  have hl := seen_lt hG.down hq
  obtain ⟨x, hx⟩ : ∃ x, (Fw.els ns)[q]? = some x := ⟨_, List.getElem?_eq_getElem hl⟩
  obtain ⟨y, hy, h1, h2⟩ : ∃ y, (addT ⟨ad, Fw.els ns⟩ id ops).e[q]? = some y ∧ y.name = x.name ∧ y.byte = x.byte := by
    unfold addT
    split
    · obtain ⟨y, hy, h1, h2, _⟩ := addN_old (id := id) (ops := ops) (k := ops.length) hx
      exact ⟨y, hy, h1, h2⟩
    · exact ⟨x, hx, rfl, rfl⟩
  rw [← he, List.getElem?_map] at hy
  obtain ⟨z, hz, hzy⟩ := Option.map_eq_some_iff.1 hy
  refine ⟨z.el.gone, z.lv, z.rv, ?_⟩
  have hb := hT.node q z hz
  rw [← hg q (by omega), gOf_at hz, nm_at hx, byteAt_at hx, ← h1, ← h2, ← hzy]
  exact hb
theorem bs_at {l : List UInt8} {i : Nat} {b : UInt8} (h : l[i]? = some b) (hi : i < (bs l).size) : (bs l)[i] = b := by
  obtain ⟨hl, e⟩ := List.getElem?_eq_some_iff.1 h
  subst e
  rfl

set_option maxRecDepth 100000 in
set_option maxHeartbeats 4000000 in
theorem walks_any (u : Value) (l : List CmV) (x : CmV) (leave : Int) (w : World) (hl : Cms w u l) (hx : Sl w opC 37 x.pv x.ops) : Calls Try.prog 4 #[u, .agg (cmC x).toArray, .int .i64 leave] w (Ret fun v w' => v = .bool true ∧ Ext w w') := by
  obtain ⟨A, m, c, rfl, hm, hmc, hcm, _⟩ := _root_.id hl.sl
  unfold maxLen at hcm
  obtain ⟨cid, cops, cA, cc⟩ := x
  have hxo : cops ≠ [] → ∀ q, (Value.slice cA cops.length cc).ownBlock = some q → q < w.heap.size := fun h0 => hx.own_lt opC_ne h0
  have hxops : Sl w opC 37 (.slice cA cops.length cc) cops := hx
  refine calls_of_CNs 78 6 [(0, .slice A m c), (1, .agg (cmC ⟨cid, cops, cA, cc⟩).toArray), (2, .int .i64 leave)] Try.func4 rfl rfl rfl Try.underlying4 rfl (by simp) args3 ?_
  have hE : Ext w w := Chg.refl
  refine CN.seq fun K1 hK1 => ?_
  refine CN.of_CW ?_
  refine CW.region ?_   -- region 0
  refine WL.box rfl rfl (by first | decide | exact Nat.le_of_ble_eq_true rfl) fun g4 w1 hx1 hg4 hB4 => ?_   -- t4 := box 42 t1
  have hlt4 := hB4.lt; have hz1 := hx1.size
  have hM4 := hB4.mem; have hz1 := hx1.size; have hE := hE.thenExt hx1
  refine WL.box rfl rfl (by first | decide | exact Nat.le_of_ble_eq_true rfl) fun g5 w2 hx2 hg5 hB5 => ?_   -- t5 := box 3 t2
  have hlt5 := hB5.lt; have hz2 := hx2.size
  have hM5 := hB5.mem; have hz2 := hx2.size; have hE := hE.thenExt hx2; have hB4 := hB4.ext hx2
  refine WL.alloc1 (z := .bool false) (by kernel_rfl) rfl (by first | decide | exact Nat.le_of_ble_eq_true rfl) fun g6 w3 hx3 hg6 hB6 => ?_   -- t6 := alloc 4
  have hlt6 := hB6.lt; have hz3 := hx3.size
  have hM6 := hB6.mem; have hz3 := hx3.size; have hE := hE.thenExt hx3; have hB4 := hB4.ext hx3; have hB5 := hB5.ext hx3
  refine WL.nil ?_
  refine hK1 _ _ _ ?_; try clear hK1 K1
  refine CN.seq fun K2 hK2 => ?_
  refine CN.of_CW ?_
  refine CW.region ?_   -- region 1
  refine WL.val (Y.move rfl) (by first | decide | exact Nat.le_of_ble_eq_true rfl) ?_   -- t16 := move t0
  refine WL.call Try.func11 rfl rfl rfl (grown_any _ l _ (hl.ext hE)) (by simp) ?_; rintro v17 w4 hR4   -- t17 := call F11(t16) : 22
  obtain ⟨g, rb, ra, ns, gr, rs, av, ev_, L, T, rfl, hA⟩ := hR4
  obtain ⟨EA, em, ec, rfl⟩ := hA.rt.es.lens
  have hz4 := hA.ext.size
  have hE := hE.thenExt hA.ext
  have hB4 := hB4.ext hA.ext
  have hB5 := hB5.ext hA.ext
  have hB6 := hB6.ext hA.ext
  have hfe := hA.fe
  have hre := hA.re
  have hok := hA.ok
  have hG : Fu.Good (Fw.els ns) := by rw [hfe]; exact hok.good
  have hGr : Fu.Good (rels rs) := by rw [hre]; exact hok.good
  have hel : (Fw.els ns).length = ns.length := List.length_map _
  have hel2 : (rels rs).length = rs.length := List.length_map _
  have hn5 : ns.length ≤ 400001 := by rw [← hel, hfe]; exact hok.few
  have hn6 : rs.length ≤ 400001 := by rw [← hel2, hre]; exact hok.few
  obtain ⟨hem, hec, hex⟩ : rs.length = em ∧ em ≤ ec ∧ ec ≤ maxLen := by
    obtain ⟨A1, m1, c1, e, h1, h2, h3, _⟩ := hA.rt.sl
    injection e with e1 e2 e3
    exact ⟨by omega, by omega, by omega⟩
  unfold maxLen at hex
  have hFl : ∀ q, Fp g rb ra ns q → w3.heap.size ≤ q ∧ q < w4.heap.size := fun q hq => ⟨hA.fnew q hq, hA.ft.lt hq⟩
  have hRl : ∀ q, Rp gr rs av (.slice EA em ec) q → w3.heap.size ≤ q ∧ q < w4.heap.size := fun q hq => ⟨(hA.rnew q hq).1, hA.rt.lt hq⟩
  have hNl : ∀ q ∈ seenE (Fw.els ns), Fp g rb ra ns (gOf ns q) := fun q hq => by
    have hl := seen_lt hG.down hq
    obtain ⟨z, hz⟩ : ∃ z, ns[q]? = some z := ⟨_, List.getElem?_eq_getElem (by omega)⟩
    rw [gOf_at hz]
    exact .inr (.inr (.inr ⟨z, List.mem_of_getElem? hz, .inl rfl⟩))
  refine WL.val (Y.move rfl) (by first | decide | exact Nat.le_of_ble_eq_true rfl) ?_   -- t15 := move t17
  refine WL.val (Y.extract rfl rfl) (by first | decide | exact Nat.le_of_ble_eq_true rfl) ?_   -- t18 := extract t15 0
  refine WL.val (Y.extract rfl rfl) (by first | decide | exact Nat.le_of_ble_eq_true rfl) ?_   -- t19 := extract t15 1
  refine WL.val (Y.extract rfl rfl) (by first | decide | exact Nat.le_of_ble_eq_true rfl) ?_   -- t20 := extract t15 2
  refine WL.alloc1 (z := .pointer none) (by kernel_rfl) rfl (by first | decide | exact Nat.le_of_ble_eq_true rfl) fun g7 w5 hx5 hg7 hB7 => ?_   -- t7 := alloc 27
  have hlt7 := hB7.lt; have hz5 := hx5.size
  have hM7 := hB7.mem; have hz5 := hx5.size; have hE := hE.thenExt hx5; have hB4 := hB4.ext hx5; have hB5 := hB5.ext hx5; have hB6 := hB6.ext hx5
  refine WL.alloc1 (z := .pointer none) (by kernel_rfl) rfl (by first | decide | exact Nat.le_of_ble_eq_true rfl) fun g8 w6 hx6 hg8 hB8 => ?_   -- t8 := alloc 28
  have hlt8 := hB8.lt; have hz6 := hx6.size
  have hM8 := hB8.mem; have hz6 := hx6.size; have hE := hE.thenExt hx6; have hB4 := hB4.ext hx6; have hB5 := hB5.ext hx6; have hB6 := hB6.ext hx6; have hB7 := hB7.ext hx6
  refine WL.store (g := g7) (pre := []) (old := [.pointer none]) (post := []) (new := [.pointer (some ⟨g, 0, none⟩)]) rfl rfl rfl rfl (by kernel_rfl) hB7 (by first | rfl | (simp [digC_length, opC_length]; done) | (simp only [digC_length, opC_length]; omega)) (one1 rfl) (fun w7 hc7 hB7_ => ?_)   -- _ := store 27 t7 t18
  have hz7 := hc7.size; have hE := hE.step hc7 (fun k h => by omega); have hB4 := hB4.chg hc7 (fun h => by omega); have hB5 := hB5.chg hc7 (fun h => by omega); have hB6 := hB6.chg hc7 (fun h => by omega); have hB8 := hB8.chg hc7 (fun h => by omega)
  have hB7 : Blk w7 g7 27 [.pointer (some ⟨g, 0, none⟩)] := by simpa using hB7_
  refine WL.store (g := g8) (pre := []) (old := [.pointer none]) (post := []) (new := [.pointer (some ⟨gr, 0, none⟩)]) rfl rfl rfl rfl (by kernel_rfl) hB8 (by first | rfl | (simp [digC_length, opC_length]; done) | (simp only [digC_length, opC_length]; omega)) (one1 rfl) (fun w8 hc8 hB8_ => ?_)   -- _ := store 28 t8 t19
  have hz8 := hc8.size; have hE := hE.step hc8 (fun k h => by omega); have hB4 := hB4.chg hc8 (fun h => by omega); have hB5 := hB5.chg hc8 (fun h => by omega); have hB6 := hB6.chg hc8 (fun h => by omega); have hB7 := hB7.chg hc8 (fun h => by omega)
  have hB8 : Blk w8 g8 28 [.pointer (some ⟨gr, 0, none⟩)] := by simpa using hB8_
  have hT8 := (((hA.ft.ext hx5).ext hx6).chg hc7 (fun q hq h => by have := (hFl q hq).2; omega)).chg hc8 (fun q hq h => by have := (hFl q hq).2; omega)
  have hR8 := (((hA.rt.ext hx5).ext hx6).chg hc7 (fun q hq h => by have := (hRl q hq).2; omega)).chg hc8 (fun q hq h => by have := (hRl q hq).2; omega)
  refine WL.val (Y.assign rfl) (by first | decide | exact Nat.le_of_ble_eq_true rfl) ?_   -- t9 := assign t20
  refine WL.nil ?_
  refine hK2 _ _ _ ?_; try clear hK2 K2
  refine CN.seq fun K3 hK3 => ?_
  refine CN.seq_testE 26 (False) ?_ ?_
  · refine CW.region ?_
    refine WL.val (Y.move rfl) (by first | decide | exact Nat.le_of_ble_eq_true rfl) ?_   -- t21 := move t9
    refine WL.val (Y.not rfl) (by first | decide | exact Nat.le_of_ble_eq_true rfl) ?_   -- t22 := unOp not 4 t21
    refine WL.val (Y.move rfl) (by first | decide | exact Nat.le_of_ble_eq_true rfl) ?_   -- t23 := move t22
    first | refine WL.casesD (d := 23) rfl (fun hg23 => ?_) (fun hg23 => ?_) | refine WL.casesND (d := 23) rfl (fun hg23 => ?_) (fun hg23 => ?_) | refine WL.cases (d := 23) rfl (fun hg23 => ?_) (fun hg23 => ?_)
    · -- t23 = T
      refine WL.goff rfl rfl (by first | decide | exact Nat.le_of_ble_eq_true rfl) ?_   -- t24 := call F12() :  [if 2=false]
      refine WL.goff rfl rfl (by first | decide | exact Nat.le_of_ble_eq_true rfl) ?_   -- t25 := unOp not 4 t24 [if 2=false]
      refine WL.val (Y.pick rfl rfl) (by first | decide | exact Nat.le_of_ble_eq_true rfl) ?_   -- t26 := pick t23 c(true) t25
      refine WL.nil ⟨⟨_, rfl, ?_⟩, Chg.refl, (by repeat (first | exact Fr.le.refl | refine Fr.le.push rfl ?_))⟩
      first | (simp only [*, Int.natCast_inj, Bool.not_eq_true', decide_eq_false_iff_not, decide_eq_true_eq, not_true_eq_false, not_false_eq_true, true_and, false_and, and_true, and_false, false_or, or_false, true_or, or_true, iff_true, true_iff, iff_false, false_iff]; done) | (simp_all; done) | (refine congrArg Value.bool (Bool.eq_iff_iff.2 ?_); simp_all; done) | (simp_all; omega)
    · -- t23 = F
      refine WL.gcall rfl rfl Try.func12 rfl rfl rfl (alive_any _) (by first | decide | exact Nat.le_of_ble_eq_true rfl) ?_; rintro v w9 ⟨rfl, hx9⟩; have hz9 := hx9.size; have hE := hE.thenExt hx9; have hB4 := hB4.ext hx9; have hB5 := hB5.ext hx9; have hB6 := hB6.ext hx9; have hB7 := hB7.ext hx9; have hB8 := hB8.ext hx9   -- t24 := call F12() :  [if 2=false]
      refine WL.gval rfl rfl (Y.not rfl) (by first | decide | exact Nat.le_of_ble_eq_true rfl) ?_   -- t25 := unOp not 4 t24 [if 2=false]
      refine WL.val (Y.pick rfl rfl) (by first | decide | exact Nat.le_of_ble_eq_true rfl) ?_   -- t26 := pick t23 c(true) t25
      refine WL.nil ⟨⟨_, rfl, ?_⟩, hx9, (by repeat (first | exact Fr.le.refl | refine Fr.le.push rfl ?_))⟩
      first | (simp only [*, Int.natCast_inj, Bool.not_eq_true', decide_eq_false_iff_not, decide_eq_true_eq, not_true_eq_false, not_false_eq_true, true_and, false_and, and_true, and_false, false_or, or_false, true_or, or_true, iff_true, true_iff, iff_false, false_iff]; done) | (simp_all; done) | (refine congrArg Value.bool (Bool.eq_iff_iff.2 ?_); simp_all; done) | (simp_all; omega)
  intro w10 hx10; have hz10 := hx10.size; have hE := hE.thenExt hx10; have hB4 := hB4.ext hx10; have hB5 := hB5.ext hx10; have hB6 := hB6.ext hx10; have hB7 := hB7.ext hx10; have hB8 := hB8.ext hx10
  first | refine CN.condD rfl (fun ht4 => ?_) (fun ht4 => ?_) | refine CN.condND rfl (fun ht4 => ?_) (fun ht4 => ?_) | refine CN.condN rfl (fun ht4 => ?_) (fun ht4 => ?_) | refine CN.cond rfl (fun ht4 => ?_) (fun ht4 => ?_)
  · -- then
    refine CN.seq fun K5 hK5 => ?_
    refine CN.of_CW ?_
    refine CW.region ?_   -- region 3
    refine WL.store (g := g6) (pre := []) (old := [.bool false]) (post := []) (new := [.bool false]) rfl rfl rfl rfl (by kernel_rfl) hB6 (by first | rfl | (simp [digC_length, opC_length]; done) | (simp only [digC_length, opC_length]; omega)) (one1 rfl) (fun w11 hc11 hB11_ => ?_)   -- _ := store 4 t6 c(false)
    have hz11 := hc11.size; have hE := hE.step hc11 (fun k h => by omega); have hB4 := hB4.chg hc11 (fun h => by omega); have hB5 := hB5.chg hc11 (fun h => by omega); have hB7 := hB7.chg hc11 (fun h => by omega); have hB8 := hB8.chg hc11 (fun h => by omega)
    skip
    refine WL.nil ?_
    refine hK5 _ _ _ ?_; try clear hK5 K5
    refine CN.ret ?_
    exact False.elim (by assumption)
  -- else
  refine CN.skip ?_
  refine hK3 _ _ _ ?_; try clear hK3 K3
  refine CN.seq fun K6 hK6 => ?_
  refine CN.of_CW ?_
  refine CW.held (fun wq => Ext w10 wq) (by kernel_rfl) 8 rfl fun w12 hS => ?_
  refine RH.take 0 (fun _ _ _ _ h => h) (by kernel_rfl) hS rfl (by kernel_rfl) (by kernel_rfl) (fun wq hq => Y.load1 Try.underlying28 rfl (hB8.ext hq).mem.cell0 rfl) (by first | decide | exact Nat.le_of_ble_eq_true rfl) ?_   -- t27 := load 28 t8
  refine RH.take 2 (fun _ _ _ _ h => h) (by kernel_rfl) hS rfl (by kernel_rfl) (by kernel_rfl) (fun wq hq => Y.load1 Try.underlying28 rfl (hB8.ext hq).mem.cell0 rfl) (by first | decide | exact Nat.le_of_ble_eq_true rfl) ?_   -- t29 := load 28 t8
  have hT10 := hT8.ext hx10
  have hR10 := hR8.ext hx10
  show RH _ _ _ _ _ 6 [true, false, true, false, false, false, false, false].toArray _ _
  refine RH.inv (fun L f V => ∃ b1 b3 b4 b5, L = [true, b1, true, b3, b4, b5, false, false] ∧ (b3 = true → b1 = true) ∧ Fr.le [(27, .pointer (some ⟨gr, 0, none⟩)), (29, .pointer (some ⟨gr, 0, none⟩)), (4, .pointer (some ⟨g4, 0, none⟩)), (5, .pointer (some ⟨g5, 0, none⟩)), (6, .pointer (some ⟨g6, 0, none⟩)), (7, .pointer (some ⟨g7, 0, none⟩)), (8, .pointer (some ⟨g8, 0, none⟩))] f ∧ Ext w10 V ∧ (b1 = true → ∃ A m c, f.get 28 = some (.slice A m c) ∧ Own V TI8 1 (.slice A m c) (intC (seenE T.e)) ∧ ∀ k, (Value.slice A m c).ownBlock = some k → w10.heap.size ≤ k) ∧ (b3 = true → f.get 30 = some (.string (bs (textE T.e)))) ∧ (b4 = true → ∃ g10, f.get 10 = some (.pointer (some ⟨g10, 0, none⟩)) ∧ Blk V g10 43 [.slice none 0 0] ∧ w10.heap.size ≤ g10) ∧ (b5 = true → ∃ g11, f.get 11 = some (.pointer (some ⟨g11, 0, none⟩)) ∧ Blk V g11 9 [.string ByteArray.empty] ∧ w10.heap.size ≤ g11)) [true, true, true, true, true, true, false, false] ?hend ?hmore ?hstep 6 _ _ _ ⟨false, false, false, false, rfl, id, (by repeat (first | exact Fr.le.nil | refine Fr.le.cons rfl ?_)), hS, (fun h => by cases h), (fun h => by cases h), (fun h => by cases h), (fun h => by cases h)⟩ rfl
  case hmore =>
    rintro L f V ⟨b1, b3, b4, b5, rfl, himp, _⟩ hne
    cases b1 <;> cases b3 <;> cases b4 <;> cases b5 <;> first | exact absurd rfl hne | exact ne_nil_of (by kernel_rfl)
  case hstep =>
    rintro fuel L f V i ⟨b1, b3, b4, b5, rfl, himp, hle, hS, k1, k3, k4, k5⟩ hne hi hk
    obtain ⟨h1, _⟩ := mem_ready.1 hi
    rcases i with _ | _ | _ | _ | _ | _ | _ | _ | i
    · exact absurd (show true = false from h1) (by decide)
    · have h1 : b1 = false := h1
      subst h1
      have hb3 : b3 = false := by
        cases b3 with
        | false => rfl
        | true => exact absurd (himp rfl) (by decide)
      subst hb3
      have hcl := rseen_any gr _ rs av _ _ (hR10.ext hS) hGr hn6
      rw [hre] at hcl
      refine RS.call rfl (fun _ _ h => by cases h) Try.func18 rfl rfl (evs_tmp (hle 27 _ rfl)) hcl (by decide) fun v V' hR => ?_
      obtain ⟨hO, hf, hx⟩ := hR
      obtain ⟨A, m, c, rfl⟩ := hO.lens
      have hz := hS.size
      refine ⟨hS.thenExt hx, hk _ _ ⟨true, false, b4, b5, rfl, (fun h => by cases h), Fr.le.push rfl hle, hS.thenExt hx, (fun _ => ⟨A, m, c, rfl, hO, fun k h => by have := hf k h; omega⟩), (fun h => by cases h), (fun h => by obtain ⟨x, h1, h2, h3⟩ := k4 h; exact ⟨x, h1, h2.ext hx, h3⟩), (fun h => by obtain ⟨x, h1, h2, h3⟩ := k5 h; exact ⟨x, h1, h2.ext hx, h3⟩)⟩⟩
    · exact absurd (show true = false from h1) (by decide)
    · have h1 : b3 = false := h1
      subst h1
      have hb1 : b1 = true := by
        cases b1 with
        | true => rfl
        | false => cases b4 <;> cases b5 <;> exact absurd hi (not_mem_of (by kernel_rfl))
      subst hb1
      have hcl := rtext_any gr _ rs av _ _ (hR10.ext hS) hGr hn6
      rw [hre] at hcl
      refine RS.call rfl (fun _ _ h => by cases h) Try.func19 rfl rfl (evs_tmp (hle 29 _ rfl)) hcl (by decide) fun v V' hR => ?_
      obtain ⟨rfl, hx⟩ := hR
      refine ⟨hS.thenExt hx, hk _ _ ⟨true, true, b4, b5, rfl, (fun _ => rfl), Fr.le.push rfl hle, hS.thenExt hx, (fun h => by obtain ⟨A, m, c, h1, h2, h3⟩ := k1 h; exact ⟨A, m, c, h1, h2.ext hx, h3⟩), (fun _ => rfl), (fun h => by obtain ⟨x, h1, h2, h3⟩ := k4 h; exact ⟨x, h1, h2.ext hx, h3⟩), (fun h => by obtain ⟨x, h1, h2, h3⟩ := k5 h; exact ⟨x, h1, h2.ext hx, h3⟩)⟩⟩
    · have h1 : b4 = false := h1
      subst h1
      refine RS.st rfl (St.allocO (z := .slice none 0 0) (by kernel_rfl) rfl) (by decide) fun v V' hR => ?_
      obtain ⟨g10, rfl, hg, hB, hx⟩ := hR
      have hz := hS.size
      refine ⟨hS.thenExt hx, hk _ _ ⟨b1, b3, true, b5, rfl, himp, Fr.le.push rfl hle, hS.thenExt hx, (fun h => by obtain ⟨A, m, c, h1, h2, h3⟩ := k1 h; exact ⟨A, m, c, h1, h2.ext hx, h3⟩), (k3), (fun _ => ⟨g10, rfl, hB, by omega⟩), (fun h => by obtain ⟨x, h1, h2, h3⟩ := k5 h; exact ⟨x, h1, h2.ext hx, h3⟩)⟩⟩
    · have h1 : b5 = false := h1
      subst h1
      refine RS.st rfl (St.allocO (z := .string ByteArray.empty) (by kernel_rfl) rfl) (by decide) fun v V' hR => ?_
      obtain ⟨g11, rfl, hg, hB, hx⟩ := hR
      have hz := hS.size
      refine ⟨hS.thenExt hx, hk _ _ ⟨b1, b3, b4, true, rfl, himp, Fr.le.push rfl hle, hS.thenExt hx, (fun h => by obtain ⟨A, m, c, h1, h2, h3⟩ := k1 h; exact ⟨A, m, c, h1, h2.ext hx, h3⟩), (k3), (fun h => by obtain ⟨x, h1, h2, h3⟩ := k4 h; exact ⟨x, h1, h2.ext hx, h3⟩), (fun _ => ⟨g11, rfl, hB, by omega⟩)⟩⟩
    · exfalso
      cases b1 <;> cases b3 <;> cases b4 <;> cases b5 <;> first | exact hne rfl | exact absurd hi (not_mem_of (by kernel_rfl))
    · exfalso
      cases b1 <;> cases b3 <;> cases b4 <;> cases b5 <;> first | exact hne rfl | exact absurd hi (not_mem_of (by kernel_rfl))
    · exact absurd h1 (by simp)
  rintro f w13 ⟨b1, b3, b4, b5, hL, _, hle, hS, k1, k3, k4, k5⟩
  injection hL with _ hL; injection hL with e1 hL; injection hL with _ hL; injection hL with e3 hL; injection hL with e4 hL; injection hL with e5 hL
  obtain ⟨SA, sm, sc, e28, hO, hfO⟩ := k1 e1.symm
  have e30 := k3 e3.symm
  obtain ⟨g10, e10, hB10, hg10⟩ := k4 e4.symm
  obtain ⟨g11, e11, hB11, hg11⟩ := k5 e5.symm
  have hg1011 : g10 ≠ g11 := fun e => by subst e; exact absurd (blk_kind hB10 hB11) (by decide)
  have hn10 : ∀ k, (Value.slice SA sm sc).ownBlock = some k → k ≠ g10 ∧ k ≠ g11 := fun k hk => by
    obtain ⟨_, _, h1⟩ := hO.kind hk
    constructor
    · rintro rfl; exact absurd (blk_kind h1 hB10) (by decide)
    · rintro rfl; exact absurd (blk_kind h1 hB11) (by decide)
  refine RH.weaken (g := [(10, .pointer (some ⟨g10, 0, none⟩)), (11, .pointer (some ⟨g11, 0, none⟩)), (28, .slice SA sm sc), (30, .string (bs (textE T.e))), (27, .pointer (some ⟨gr, 0, none⟩)), (29, .pointer (some ⟨gr, 0, none⟩)), (4, .pointer (some ⟨g4, 0, none⟩)), (5, .pointer (some ⟨g5, 0, none⟩)), (6, .pointer (some ⟨g6, 0, none⟩)), (7, .pointer (some ⟨g7, 0, none⟩)), (8, .pointer (some ⟨g8, 0, none⟩))]) (Fr.le.cons e10 (Fr.le.cons e11 (Fr.le.cons e28 (Fr.le.cons e30 hle)))) ?_
  show RH _ _ _ _ _ 2 _ _ _   -- w13; ['call F18(t27) : 28', 'call F19(t29) : 28', 'alloc 43', 'alloc 9']
  refine RH.one 6 (by kernel_rfl) ?_
  refine RS.store rfl (g := g10) (pre := []) (old := [.slice none 0 0]) (post := []) (new := [.slice SA sm sc]) rfl rfl rfl rfl (by kernel_rfl) hB10 rfl (one1 rfl) (fun w14 hc14 hB14_ => ?_)   -- store 43 t10 t28
  have hS : Ext w10 w14 := hS.step hc14 (fun k h => by omega)
  have hB10 : Blk w14 g10 43 [.slice SA sm sc] := by simpa using hB14_
  have hB11 := hB11.chg hc14 (fun h => hg1011 h.symm)
  have hO := hO.chg hc14 (fun k hk h => (hn10 k hk).1 h)
  refine ⟨hS, ?_⟩
  refine RH.one 7 (by kernel_rfl) ?_
  refine RS.store rfl (g := g11) (pre := []) (old := [.string ByteArray.empty]) (post := []) (new := [.string (bs (textE T.e))]) rfl rfl rfl rfl (by kernel_rfl) hB11 rfl (one1 rfl) (fun w15 hc15 hB15_ => ?_)   -- store 9 t11 t30
  have hS : Ext w10 w15 := hS.step hc15 (fun k h => by omega)
  have hB11 : Blk w15 g11 9 [.string (bs (textE T.e))] := by simpa using hB15_
  have hB10 := hB10.chg hc15 (fun h => hg1011 h)
  have hO := hO.chg hc15 (fun k hk h => (hn10 k hk).2 h)
  have hOl := hO.lt
  have hlt10 := hB10.lt
  have hlt11 := hB11.lt
  refine ⟨hS, ?_⟩
  refine RH.done (by kernel_rfl) ?_
  have hx16 := hS; have hz16 := hx16.size; have hE := hE.thenExt hx16; have hB4 := hB4.ext hx16; have hB5 := hB5.ext hx16; have hB6 := hB6.ext hx16; have hB7 := hB7.ext hx16; have hB8 := hB8.ext hx16
  refine hK6 _ _ _ ?_; try clear hK6 K6
  refine CN.seq fun K7 hK7 => ?_
  refine CN.of_CW ?_
  refine CW.region ?_   -- region 5
  refine WL.allocStore1 (by kernel_rfl) rfl (by simp) rfl rfl (by first | decide | exact Nat.le_of_ble_eq_true rfl) fun g12 w17 hx17 hg12 hB12 => ?_   -- alloc 3; store 3 t12 c(0:i64)
  have hlt12 := hB12.lt; have hz17 := hx17.size
  have hM12 := hB12.mem; have hz17 := hx17.size; have hE := hE.thenExt hx17; have hB4 := hB4.ext hx17; have hB5 := hB5.ext hx17; have hB6 := hB6.ext hx17; have hB7 := hB7.ext hx17; have hB8 := hB8.ext hx17; have hB10 := hB10.ext hx17; have hB11 := hB11.ext hx17
  refine WL.nil ?_
  refine hK7 _ _ _ ?_; try clear hK7 K7
  refine CN.seq fun K8 hK8 => ?_
  refine CN.seq fun K9 hK9 => ?_
  refine CN.of_CW ?_
  refine CW.region ?_   -- region 6
  refine WL.val (Y.load1 Try.underlying27 rfl hB7.mem.cell0 rfl) (by first | decide | exact Nat.le_of_ble_eq_true rfl) ?_   -- t31 := load 27 t7
  refine WL.call Try.func20 rfl rfl rfl (fall_any ⟨g, 0, none⟩ _) (by simp) ?_; rintro v32 w18 hR18   -- t32 := call F20(t31) : 27
  obtain ⟨b, rfl, hgb, hBb, hx18⟩ := hR18
  have hz18 := hx18.size
  have hE := hE.thenExt hx18
  have hB4 := hB4.ext hx18
  have hB5 := hB5.ext hx18
  have hB6 := hB6.ext hx18
  have hB7 := hB7.ext hx18
  have hB8 := hB8.ext hx18
  have hB10 := hB10.ext hx18
  have hB11 := hB11.ext hx18
  have hB12 := hB12.ext hx18
  have hlt4 := hB4.lt
  have hlt5 := hB5.lt
  have hlt7 := hB7.lt
  have hlt8 := hB8.lt
  have hT18 := ((hT10.ext hx16).ext hx17).ext hx18
  have hR18 := ((hR10.ext hx16).ext hx17).ext hx18
  have hO18 := (hO.ext hx17).ext hx18
  have hsm := (int_map hO18).1
  have hsl : sm ≤ 400001 := by
    have h1 := List.countP_le_length (p := fun x : El => !x.gone) (l := Fw.els ns)
    rw [← hsm, ← hfe, hG.seen_length]; rw [List.length_map] at h1; exact Nat.le_trans h1 hn5
  refine WL.nil ?_
  refine hK9 _ _ _ ?_; try clear hK9 K9
  refine CN.block ?_   -- block 0
  refine CN.rangeN (rfl) Try.func43 rfl rfl (fall1_any g rb ra T.ad ns b _ hT18 hG hn5 hBb) (fun _ => rfl) (by first | decide | exact Nat.le_of_ble_eq_true rfl) (fun _ h => h.elim) (fun w1 s V hz hs i hk => by have := hs.1; have := hk.1; omega) (fun s i V => w18.heap.size + 2 ≤ s.lo ∧ s.lo ≤ s.hi ∧ s.hi ≤ V.heap.size ∧ Blk V g4 TCm (cmC ⟨cid, cops, cA, cc⟩) ∧ Blk V g5 3 [.int .i64 leave] ∧ Blk V g6 4 [.bool false] ∧ Blk V g7 27 [.pointer (some ⟨g, 0, none⟩)] ∧ Blk V g8 28 [.pointer (some ⟨gr, 0, none⟩)] ∧ Blk V g10 43 [.slice SA sm sc] ∧ Blk V g11 9 [.string (bs (textE T.e))] ∧ Blk V g12 3 [.int .i64 (i : Int)] ∧ Own V TI8 1 (.slice SA sm sc) (intC (seenE T.e)) ∧ RtAt V gr T.ad rs av (.slice EA em ec) ∧ AllN ns (Fw.els ns) V ∧ (i = 0 → FtAt V g rb ra T.ad ns) ∧ Ext w V) (fun _ e V => e = .ret ∧ Blk V g6 4 [.bool true] ∧ Ext w V) ?_ ?_ ?_ ?_ ?_ ?_ ?_
  · intro w1_ s_ V hw_ hz_ hc_ hs_
    exact ⟨by have := hs_.1; omega, hs_.2.1, hs_.2.2, (hB4.ext hw_).ext hc_, (hB5.ext hw_).ext hc_, (hB6.ext hw_).ext hc_, (hB7.ext hw_).ext hc_, (hB8.ext hw_).ext hc_, (hB10.ext hw_).ext hc_, (hB11.ext hw_).ext hc_, (hB12.ext hw_).ext hc_, (hO18.ext hw_).ext hc_, (hR18.ext hw_).ext hc_, ((hT18.ext hw_).ext hc_).allN hG, (fun _ => (hT18.ext hw_).ext hc_), (hE.thenExt hw_).thenExt hc_⟩
  · intro s_ i_ V V_ hi_ hc_
    obtain ⟨hlo, hlh, hhi, hB4, hB5, hB6, hB7, hB8, hB10, hB11, hB12, hO, hRt, hN, hT, hE⟩ := hi_
    have hzc := hc_.size
    exact ⟨hlo, hlh, by omega, hB4.chg hc_ (fun h => by rcases h with h | h; exact h; omega), hB5.chg hc_ (fun h => by rcases h with h | h; exact h; omega), hB6.chg hc_ (fun h => by rcases h with h | h; exact h; omega), hB7.chg hc_ (fun h => by rcases h with h | h; exact h; omega), hB8.chg hc_ (fun h => by rcases h with h | h; exact h; omega), hB10.chg hc_ (fun h => by rcases h with h | h; exact h; omega), hB11.chg hc_ (fun h => by rcases h with h | h; exact h; omega), hB12.chg hc_ (fun h => by rcases h with h | h; exact h; omega), hO.chg hc_ (fun q hq h => by rcases h with h | h; exact h; have := hOl q hq; omega), hRt.chg hc_ (fun q hq h => by rcases h with h | h; exact h; have := (hRl q hq).2; omega), hN.chg hc_ (fun q hq h => by rcases h with h | h; exact h; have := (hFl _ (hNl q hq)).2; omega), (fun h0 => (hT h0).chg hc_ (fun q hq h => by rcases h with h | h; exact h; have := (hFl q hq).2; omega)), hE.step hc_ (fun k h => by rcases h with h | h; exact h.elim; omega)⟩
  · intro s_ e_ V V_ hi_ hc_
    obtain ⟨h1, h2, h3⟩ := hi_
    exact ⟨h1, h2.chg hc_ (fun h => by rcases h with h | h; exact h; omega), h3.step hc_ (fun k h => by rcases h with h | h; exact h.elim; omega)⟩
  · intro s_ i_ V hi_
    obtain ⟨hlo, hlh, hhi, hB4, hB5, hB6, hB7, hB8, hB10, hB11, hB12, hO, hRt, hN, hT, hE⟩ := hi_
    exact hN
  · intro s_ i_ x_ w19 hi_ hx_ hat_ hz_
    obtain ⟨hlo, hlh, hhi, hB4, hB5, hB6, hB7, hB8, hB10, hB11, hB12, hO, hRt, hN, hT, hE⟩ := hi_
    obtain ⟨p, hp, rfl⟩ : ∃ q, (seenE (Fw.els ns))[i_]? = some q ∧ (nm (Fw.els ns) q, byteAt (Fw.els ns) q) = x_ := by
      rw [allXs8, List.getElem?_map] at hx_
      exact Option.map_eq_some_iff.1 hx_
    have hpT : (seenE T.e)[i_]? = some p := by rw [← hfe]; exact hp
    have hil : i_ < sm := by have := (List.getElem?_eq_some_iff.1 hpT).1; omega
    have hpl := seen_lt hGr.down (by rw [hre]; exact List.mem_of_getElem? hpT : p ∈ seenE (rels rs))
    obtain ⟨y, hy⟩ : ∃ y, rs[p]? = some y := ⟨_, List.getElem?_eq_getElem (by omega)⟩
    have hye : (Fw.els ns)[p]? = some y.el := by rw [hfe, ← hre, List.getElem?_map, hy]; rfl
    rw [nm_at hye, byteAt_at hye]
    have hbT : (textE T.e)[i_]? = some y.el.byte := by rw [← hfe, textE, List.getElem?_map, hp]; show some (byteAt _ p) = _; rw [byteAt_at hye]
    have hsz : i_ < (bs (textE T.e)).size := (List.getElem?_eq_some_iff.1 hbT).1
    have hbe := bs_at hbT hsz
    have hpe : p < em := by omega
    refine CW.seq fun K10 hK10 => ?_
    refine CW.region ?_   -- region 7
    refine as_apiRef rfl (by simp) (by first | decide | exact Nat.le_of_ble_eq_true rfl) fun g13 w20 hx20 hg13 hB13 => ?_   -- alloc 49; store 49 t13 t33
    have hlt13 := hB13.lt; have hz20 := hx20.size
    have hM13 := hB13.mem; have hz20 := hx20.size; have hE := hE.thenExt hx20; have hB4 := hB4.ext hx20; have hB5 := hB5.ext hx20; have hB6 := hB6.ext hx20; have hB7 := hB7.ext hx20; have hB8 := hB8.ext hx20; have hB10 := hB10.ext hx20; have hB11 := hB11.ext hx20; have hB12 := hB12.ext hx20
    refine WL.nil ?_
    refine hK10 _ _ ?_; try clear hK10 K10
    refine CW.region ?_   -- region 8
    refine WL.val (Y.assign rfl) (by first | decide | exact Nat.le_of_ble_eq_true rfl) ?_   -- t14 := assign t34
    refine WL.nil ?_
    have hE_ : Ext w19 w20 := hx20
    refine ⟨hE_, fun w21 hc_ => ?_⟩
    have hz21 := hc_.size
    have hB4 := hB4.chg hc_ (fun h => by omega)
    have hB5 := hB5.chg hc_ (fun h => by omega)
    have hB6 := hB6.chg hc_ (fun h => by omega)
    have hB7 := hB7.chg hc_ (fun h => by omega)
    have hB8 := hB8.chg hc_ (fun h => by omega)
    have hB10 := hB10.chg hc_ (fun h => by omega)
    have hB11 := hB11.chg hc_ (fun h => by omega)
    have hB12 := hB12.chg hc_ (fun h => by omega)
    have hB13 := hB13.chg hc_ (fun h => by omega)
    have hE := hE.step hc_ (fun k h => by omega)
    have hO := (hO.ext hx20).chg hc_ (fun k hk h => by have := hOl k hk; omega)
    have hRt := (hRt.ext hx20).chg hc_ (fun k hk h => by have := (hRl k hk).2; omega)
    have hN := (hN.chg hx20 (fun _ _ h => h)).chg hc_ (fun q hq h => by have := (hFl _ (hNl q hq)).2; omega)
    have hT := fun h0 => ((hT h0).ext hx20).chg hc_ (fun q hq h => by have := (hFl q hq).2; omega)
    obtain ⟨sa, rfl, hms⟩ := (int_map hO).2 i_ p hpT
    obtain ⟨ea, rfl, hmy⟩ := hRt.sl.get hy
    refine CW.block ?_   -- block 1
    refine CW.seq fun K11 hK11 => ?_
    refine CW.seq_testE 60 (False) ?_ ?_
    · refine CW.quiet (fun wq => Ext w21 wq) (by kernel_rfl) (by kernel_rfl) Chg.drew ?_
      refine QL.val (fun wq hq => Y.load1 Try.underlying3 rfl (hB12.ext hq).mem.cell0 rfl) (by first | decide | exact Nat.le_of_ble_eq_true rfl) ?_   -- t35 := load 3 t12
      refine QL.val (fun wq hq => Y.load1 Try.underlying43 rfl ((hB10.ext hq).mem.cell0) rfl) (by first | decide | exact Nat.le_of_ble_eq_true rfl) ?_   -- t36 := load 43 t10
      refine QL.val (fun wq hq => Y.len_slice Try.underlying43 rfl) (by first | decide | exact Nat.le_of_ble_eq_true rfl) ?_   -- t37 := call len(t36) : 43
      refine QL.val (fun wq hq => Y.geq rfl rfl) (by first | decide | exact Nat.le_of_ble_eq_true rfl) ?_   -- t38 := binOp geq 3 t35 t37 3
      refine QL.val (fun wq hq => Y.move rfl) (by first | decide | exact Nat.le_of_ble_eq_true rfl) ?_   -- t39 := move t38
      first | refine QL.casesD (d := 39) rfl (fun hg39 => ?_) (fun hg39 => ?_) | refine QL.casesND (d := 39) rfl (fun hg39 => ?_) (fun hg39 => ?_) | refine QL.cases (d := 39) rfl (fun hg39 => ?_) (fun hg39 => ?_)
      · -- t39 = T
        refine QL.goff rfl rfl (by first | decide | exact Nat.le_of_ble_eq_true rfl) ?_   -- t40 := load 49 t13 [if 4=false]
        refine QL.goff rfl rfl (by first | decide | exact Nat.le_of_ble_eq_true rfl) ?_   -- t41 := load 28 t8 [if 4=false]
        refine QL.goff rfl rfl (by first | decide | exact Nat.le_of_ble_eq_true rfl) ?_   -- t42 := nilCheck t41 [if 4=false]
        refine QL.goff rfl rfl (by first | decide | exact Nat.le_of_ble_eq_true rfl) ?_   -- t43 := fieldAddr 55 t42 1 [if 4=false]
        refine QL.goff rfl rfl (by first | decide | exact Nat.le_of_ble_eq_true rfl) ?_   -- t44 := load 53 t43 [if 4=false]
        refine QL.goff rfl rfl (by first | decide | exact Nat.le_of_ble_eq_true rfl) ?_   -- t45 := load 43 t10 [if 4=false]
        refine QL.goff rfl rfl (by first | decide | exact Nat.le_of_ble_eq_true rfl) ?_   -- t46 := load 3 t12 [if 4=false]
        refine QL.goff rfl rfl (by first | decide | exact Nat.le_of_ble_eq_true rfl) ?_   -- t47 := indexAddr 43 t45 t46 [if 4=false]
        refine QL.goff rfl rfl (by first | decide | exact Nat.le_of_ble_eq_true rfl) ?_   -- t48 := load 3 t47 [if 4=false]
        refine QL.goff rfl rfl (by first | decide | exact Nat.le_of_ble_eq_true rfl) ?_   -- t49 := indexAddr 53 t44 t48 [if 4=false]
        refine QL.goff rfl rfl (by first | decide | exact Nat.le_of_ble_eq_true rfl) ?_   -- t50 := fieldAddr 51 t49 0 [if 4=false]
        refine QL.goff rfl rfl (by first | decide | exact Nat.le_of_ble_eq_true rfl) ?_   -- t51 := load 49 t50 [if 4=false]
        refine QL.goff rfl rfl (by first | decide | exact Nat.le_of_ble_eq_true rfl) ?_   -- t52 := binOp neq 49 t40 t51 49 [if 4=false]
        refine QL.val (fun wq hq => Y.pick rfl rfl) (by first | decide | exact Nat.le_of_ble_eq_true rfl) ?_   -- t53 := pick t39 c(true) t52
        refine QL.val (fun wq hq => Y.move rfl) (by first | decide | exact Nat.le_of_ble_eq_true rfl) ?_   -- t54 := move t53
        refine QL.goff rfl rfl (by first | decide | exact Nat.le_of_ble_eq_true rfl) ?_   -- t55 := move t14 [if 19=false]
        refine QL.goff rfl rfl (by first | decide | exact Nat.le_of_ble_eq_true rfl) ?_   -- t56 := load 9 t11 [if 19=false]
        refine QL.goff rfl rfl (by first | decide | exact Nat.le_of_ble_eq_true rfl) ?_   -- t57 := load 3 t12 [if 19=false]
        refine QL.goff rfl rfl (by first | decide | exact Nat.le_of_ble_eq_true rfl) ?_   -- t58 := index 9 t56 t57 [if 19=false]
        refine QL.goff rfl rfl (by first | decide | exact Nat.le_of_ble_eq_true rfl) ?_   -- t59 := binOp neq 5 t55 t58 5 [if 19=false]
        refine QL.val (fun wq hq => Y.pick rfl rfl) (by first | decide | exact Nat.le_of_ble_eq_true rfl) ?_   -- t60 := pick t54 c(true) t59
        refine QL.nil fun wq hq => ⟨⟨_, rfl, ?_⟩, hq, (by repeat (first | exact Fr.le.refl | refine Fr.le.push rfl ?_))⟩
        first | (simp only [*, Int.natCast_inj, Bool.not_eq_true', decide_eq_false_iff_not, decide_eq_true_eq, not_true_eq_false, not_false_eq_true, true_and, false_and, and_true, and_false, false_or, or_false, true_or, or_true, iff_true, true_iff, iff_false, false_iff]; done) | (simp_all; done) | (refine congrArg Value.bool (Bool.eq_iff_iff.2 ?_); simp_all; done) | (simp_all; omega)
      · -- t39 = F
        refine QL.gval rfl rfl (fun wq hq => Y.load Try.underlying49 rfl (hB13.ext hq).mem (sz_apiRef _) rfl) (by first | decide | exact Nat.le_of_ble_eq_true rfl) ?_   -- t40 := load 49 t13 [if 4=false]
        refine QL.gval rfl rfl (fun wq hq => Y.load1 Try.underlying28 rfl (hB8.ext hq).mem.cell0 rfl) (by first | decide | exact Nat.le_of_ble_eq_true rfl) ?_   -- t41 := load 28 t8 [if 4=false]
        refine QL.gval rfl rfl (fun wq hq => Y.nilCheck rfl) (by first | decide | exact Nat.le_of_ble_eq_true rfl) ?_   -- t42 := nilCheck t41 [if 4=false]
        refine QL.gval rfl rfl (fun wq hq => Y.fieldAddr fo_recensionref08Tree1 rfl) (by first | decide | exact Nat.le_of_ble_eq_true rfl) ?_   -- t43 := fieldAddr 55 t42 1 [if 4=false]
        refine QL.gval rfl rfl (fun wq hq => Y.load1 Try.underlying53 rfl ((hRt.ext hq).blk.mem.recensionref08Tree1) rfl) (by first | decide | exact Nat.le_of_ble_eq_true rfl) ?_   -- t44 := load 53 t43 [if 4=false]
        refine QL.gval rfl rfl (fun wq hq => Y.load1 Try.underlying43 rfl ((hB10.ext hq).mem.cell0) rfl) (by first | decide | exact Nat.le_of_ble_eq_true rfl) ?_   -- t45 := load 43 t10 [if 4=false]
        refine QL.gval rfl rfl (fun wq hq => Y.load1 Try.underlying3 rfl (hB12.ext hq).mem.cell0 rfl) (by first | decide | exact Nat.le_of_ble_eq_true rfl) ?_   -- t46 := load 3 t12 [if 4=false]
        refine QL.gval rfl rfl (fun wq hq => Y.indexAddrN Try.underlying43 rfl rfl sz0_int (by omega)) (by first | decide | exact Nat.le_of_ble_eq_true rfl) ?_   -- t47 := indexAddr 43 t45 t46 [if 4=false]
        refine QL.gval rfl rfl (fun wq hq => Y.load1 Try.underlying3 rfl ((hms.ext hq).cell0) rfl) (by first | decide | exact Nat.le_of_ble_eq_true rfl) ?_   -- t48 := load 3 t47 [if 4=false]
        refine QL.gval rfl rfl (fun wq hq => Y.indexAddrN Try.underlying53 rfl rfl sz0_recensionref08Elem (by omega)) (by first | decide | exact Nat.le_of_ble_eq_true rfl) ?_   -- t49 := indexAddr 53 t44 t48 [if 4=false]
        refine QL.gval rfl rfl (fun wq hq => Y.fieldAddr fo_recensionref08Elem0 rfl) (by first | decide | exact Nat.le_of_ble_eq_true rfl) ?_   -- t50 := fieldAddr 51 t49 0 [if 4=false]
        refine QL.gval rfl rfl (fun wq hq => Y.load Try.underlying49 rfl ((hmy.ext hq).recensionref08Elem0) (sz_apiRef _) rfl) (by first | decide | exact Nat.le_of_ble_eq_true rfl) ?_   -- t51 := load 49 t50 [if 4=false]
        refine QL.gval rfl rfl (fun wq hq => Y.neq_apiRef rfl rfl) (by first | decide | exact Nat.le_of_ble_eq_true rfl) ?_   -- t52 := binOp neq 49 t40 t51 49 [if 4=false]
        refine QL.val (fun wq hq => Y.pick rfl rfl) (by first | decide | exact Nat.le_of_ble_eq_true rfl) ?_   -- t53 := pick t39 c(true) t52
        refine QL.val (fun wq hq => Y.move rfl) (by first | decide | exact Nat.le_of_ble_eq_true rfl) ?_   -- t54 := move t53
        first | refine QL.casesD (d := 54) rfl (fun hg54 => ?_) (fun hg54 => ?_) | refine QL.casesND (d := 54) rfl (fun hg54 => ?_) (fun hg54 => ?_) | refine QL.cases (d := 54) rfl (fun hg54 => ?_) (fun hg54 => ?_)
        · -- t54 = T
          refine QL.goff rfl rfl (by first | decide | exact Nat.le_of_ble_eq_true rfl) ?_   -- t55 := move t14 [if 19=false]
          refine QL.goff rfl rfl (by first | decide | exact Nat.le_of_ble_eq_true rfl) ?_   -- t56 := load 9 t11 [if 19=false]
          refine QL.goff rfl rfl (by first | decide | exact Nat.le_of_ble_eq_true rfl) ?_   -- t57 := load 3 t12 [if 19=false]
          refine QL.goff rfl rfl (by first | decide | exact Nat.le_of_ble_eq_true rfl) ?_   -- t58 := index 9 t56 t57 [if 19=false]
          refine QL.goff rfl rfl (by first | decide | exact Nat.le_of_ble_eq_true rfl) ?_   -- t59 := binOp neq 5 t55 t58 5 [if 19=false]
          refine QL.val (fun wq hq => Y.pick rfl rfl) (by first | decide | exact Nat.le_of_ble_eq_true rfl) ?_   -- t60 := pick t54 c(true) t59
          refine QL.nil fun wq hq => ⟨⟨_, rfl, ?_⟩, hq, (by repeat (first | exact Fr.le.refl | refine Fr.le.push rfl ?_))⟩
          first | (simp only [*, Int.natCast_inj, Bool.not_eq_true', decide_eq_false_iff_not, decide_eq_true_eq, not_true_eq_false, not_false_eq_true, true_and, false_and, and_true, and_false, false_or, or_false, true_or, or_true, iff_true, true_iff, iff_false, false_iff]; done) | (simp_all; done) | (refine congrArg Value.bool (Bool.eq_iff_iff.2 ?_); simp_all; done) | (simp_all; omega)
        · -- t54 = F
          refine QL.gval rfl rfl (fun wq hq => Y.move rfl) (by first | decide | exact Nat.le_of_ble_eq_true rfl) ?_   -- t55 := move t14 [if 19=false]
          refine QL.gval rfl rfl (fun wq hq => Y.load1 Try.underlying9 rfl ((hB11.ext hq).mem.cell0) rfl) (by first | decide | exact Nat.le_of_ble_eq_true rfl) ?_   -- t56 := load 9 t11 [if 19=false]
          refine QL.gval rfl rfl (fun wq hq => Y.load1 Try.underlying3 rfl (hB12.ext hq).mem.cell0 rfl) (by first | decide | exact Nat.le_of_ble_eq_true rfl) ?_   -- t57 := load 3 t12 [if 19=false]
          refine QL.gval rfl rfl (fun wq hq => Y.index_string (i := i_) Try.underlying9 rfl rfl (by omega)) (by first | decide | exact Nat.le_of_ble_eq_true rfl) ?_   -- t58 := index 9 t56 t57 [if 19=false]
          refine QL.gval rfl rfl (fun wq hq => Y.neq rfl rfl) (by first | decide | exact Nat.le_of_ble_eq_true rfl) ?_   -- t59 := binOp neq 5 t55 t58 5 [if 19=false]
          refine QL.val (fun wq hq => Y.pick rfl rfl) (by first | decide | exact Nat.le_of_ble_eq_true rfl) ?_   -- t60 := pick t54 c(true) t59
          refine QL.nil fun wq hq => ⟨⟨_, rfl, ?_⟩, hq, (by repeat (first | exact Fr.le.refl | refine Fr.le.push rfl ?_))⟩
          first | (simp only [*, Int.natCast_inj, Bool.not_eq_true', decide_eq_false_iff_not, decide_eq_true_eq, not_true_eq_false, not_false_eq_true, true_and, false_and, and_true, and_false, false_or, or_false, true_or, or_true, iff_true, true_iff, iff_false, false_iff]; done) | (simp_all; done) | (refine congrArg Value.bool (Bool.eq_iff_iff.2 ?_); simp_all; done) | (simp_all; omega)
    intro w22 hx22; have hz22 := hx22.size; have hE := hE.thenExt hx22; have hB4 := hB4.ext hx22; have hB5 := hB5.ext hx22; have hB6 := hB6.ext hx22; have hB7 := hB7.ext hx22; have hB8 := hB8.ext hx22; have hB10 := hB10.ext hx22; have hB11 := hB11.ext hx22; have hB12 := hB12.ext hx22; have hB13 := hB13.ext hx22
    first | refine CW.condD rfl (fun ht12 => ?_) (fun ht12 => ?_) | refine CW.condND rfl (fun ht12 => ?_) (fun ht12 => ?_) | refine CW.condN rfl (fun ht12 => ?_) (fun ht12 => ?_) | refine CW.cond rfl (fun ht12 => ?_) (fun ht12 => ?_)
    · -- then
      refine CW.seq fun K13 hK13 => ?_
      refine CW.region ?_   -- region 10
      refine WL.store (g := g6) (pre := []) (old := [.bool false]) (post := []) (new := [.bool false]) rfl rfl rfl rfl (by kernel_rfl) hB6 (by first | rfl | (simp [digC_length, opC_length]; done) | (simp only [digC_length, opC_length]; omega)) (one1 rfl) (fun w23 hc23 hB23_ => ?_)   -- _ := store 4 t6 c(false)
      have hz23 := hc23.size; have hE := hE.step hc23 (fun k h => by omega); have hB4 := hB4.chg hc23 (fun h => by omega); have hB5 := hB5.chg hc23 (fun h => by omega); have hB7 := hB7.chg hc23 (fun h => by omega); have hB8 := hB8.chg hc23 (fun h => by omega); have hB10 := hB10.chg hc23 (fun h => by omega); have hB11 := hB11.chg hc23 (fun h => by omega); have hB12 := hB12.chg hc23 (fun h => by omega); have hB13 := hB13.chg hc23 (fun h => by omega)
      skip
      refine WL.nil ?_
      refine hK13 _ _ ?_; try clear hK13 K13
      refine CW.ret ?_
      exact False.elim (by assumption)
    -- else
    refine CW.skip ?_
    refine hK11 _ _ ?_; try clear hK11 K11
    refine CW.seq_to (X := Unit) (fun _ => [(5, .pointer (some ⟨g5, 0, none⟩)), (6, .pointer (some ⟨g6, 0, none⟩)), (12, .pointer (some ⟨g12, 0, none⟩))]) (fun _ wj => Blk wj g4 TCm (cmC ⟨cid, cops, cA, cc⟩) ∧ Blk wj g5 3 [.int .i64 leave] ∧ Blk wj g6 4 [.bool false] ∧ Blk wj g7 27 [.pointer (some ⟨g, 0, none⟩)] ∧ Blk wj g8 28 [.pointer (some ⟨gr, 0, none⟩)] ∧ Blk wj g10 43 [.slice (some sa) sm sc] ∧ Blk wj g11 9 [.string (bs (textE T.e))] ∧ Blk wj g12 3 [.int .i64 (i_ : Int)] ∧ Own wj TI8 1 (.slice (some sa) sm sc) (intC (seenE T.e)) ∧ RtAt wj gr T.ad rs av (.slice (some ea) em ec) ∧ AllN ns (Fw.els ns) wj ∧ Chg (Fp g rb ra ns) w22 wj) ?_ ?_
    · skip
      refine CW.seq fun K15 hK15 => ?_
      refine CW.region ?_   -- region 11
      refine WL.val (Y.load1 Try.underlying3 rfl hB12.mem.cell0 rfl) (by first | decide | exact Nat.le_of_ble_eq_true rfl) ?_   -- t61 := load 3 t12
      refine WL.val (Y.eql rfl rfl) (by first | decide | exact Nat.le_of_ble_eq_true rfl) ?_   -- t62 := binOp eql 3 t61 c(0:i64) 3
      refine WL.nil ?_
      refine hK15 _ _ ?_; try clear hK15 K15
      first | refine CW.condD rfl (fun ht16 => ?_) (fun ht16 => ?_) | refine CW.condND rfl (fun ht16 => ?_) (fun ht16 => ?_) | refine CW.condN rfl (fun ht16 => ?_) (fun ht16 => ?_) | refine CW.cond rfl (fun ht16 => ?_) (fun ht16 => ?_)
      · -- then
        refine CW.region ?_   -- region 12
        refine WL.val (Y.load1 Try.underlying27 rfl hB7.mem.cell0 rfl) (by first | decide | exact Nat.le_of_ble_eq_true rfl) ?_   -- t63 := load 27 t7
        refine WL.val (Y.fieldAddr fo_recensionlaw08Commit0 rfl) (by first | decide | exact Nat.le_of_ble_eq_true rfl) ?_   -- t64 := fieldAddr 42 t4 0
        refine WL.val (Y.load Try.underlying24 rfl hB4.mem.recensionlaw08Commit0 (sz_apiDigest _) rfl) (by first | decide | exact Nat.le_of_ble_eq_true rfl) ?_   -- t65 := load 24 t64
        refine WL.val (Y.fieldAddr fo_recensionlaw08Commit1 rfl) (by first | decide | exact Nat.le_of_ble_eq_true rfl) ?_   -- t66 := fieldAddr 42 t4 1
        refine WL.val (Y.load1 Try.underlying35 rfl hB4.mem.recensionlaw08Commit1 rfl) (by first | decide | exact Nat.le_of_ble_eq_true rfl) ?_   -- t67 := load 35 t66
        refine WL.call Try.func17 rfl rfl rfl (fadd_any g rb ra T.ad ns cid _ cops L _ ((hT (by omega)).ext hx22) (by rw [hfe]; exact hok) (hxops.ext hE) (fun h0 q hq => ⟨by have := hxo h0 q hq; have := hE.size; omega, fun h => by have := hxo h0 q hq; have := (hFl q h).1; omega⟩)) (by simp) ?_; rintro v68 w24 hR24   -- t68 := call F17(t63, t65, t67) : 27,24,35
        obtain ⟨_, ns2, hT2, he2, hc24, hf24, hg24⟩ := hR24
        refine WL.nil ?_
        exact ⟨(), (by repeat (first | exact Fr.le.nil | refine Fr.le.cons rfl ?_)), hB4.chg hc24 (fun h => by have := hFl _ h; omega), hB5.chg hc24 (fun h => by have := hFl _ h; omega), hB6.chg hc24 (fun h => by have := hFl _ h; omega), hB7.chg hc24 (fun h => by have := hFl _ h; omega), hB8.chg hc24 (fun h => by have := hFl _ h; omega), hB10.chg hc24 (fun h => by have := hFl _ h; omega), hB11.chg hc24 (fun h => by have := hFl _ h; omega), hB12.chg hc24 (fun h => by have := hFl _ h; omega), (hO.ext hx22).chg hc24 (fun k hk h => by have := hfO k hk; have := hFl k h; omega), (hRt.ext hx22).chg hc24 (fun q hq h => (hA.rnew q hq).2 h), AllN.add hT2 he2 hg24 hG, hc24⟩
      -- else
      refine CW.skip ?_
      exact ⟨(), (by repeat (first | exact Fr.le.nil | refine Fr.le.cons rfl ?_)), hB4, hB5, hB6, hB7, hB8, hB10, hB11, hB12, hO.ext hx22, hRt.ext hx22, hN.chg hx22 (fun _ _ h => h), Chg.refl⟩
    rintro u w25 hj25
    obtain ⟨hB4, hB5, hB6, hB7, hB8, hB10, hB11, hB12, hO, hRt, hN, hcJ⟩ := hj25
    have hz25 := hcJ.size
    have hB13 := hB13.chg hcJ (fun h => by have := (hFl _ h).2; omega)
    have hE := hE.step hcJ (fun k h => by have := (hFl k h).1; omega)
    have hJJ : Chg (fun k => Fp g rb ra ns k ∨ k = g6 ∨ k = g12) w21 w25 := (Ext.chg hx22).trans hcJ (fun _ _ h => .inl h)
    refine CW.seq fun K17 hK17 => ?_
    refine CW.seq fun K18 hK18 => ?_
    refine CW.region ?_   -- region 13
    refine WL.val (Y.load1 Try.underlying3 rfl hB12.mem.cell0 rfl) (by first | decide | exact Nat.le_of_ble_eq_true rfl) ?_   -- t69 := load 3 t12
    refine WL.val (Y.load1 Try.underlying3 rfl hB5.mem.cell0 rfl) (by first | decide | exact Nat.le_of_ble_eq_true rfl) ?_   -- t70 := load 3 t5
    refine WL.val (Y.eql rfl rfl) (by first | decide | exact Nat.le_of_ble_eq_true rfl) ?_   -- t71 := binOp eql 3 t69 t70 3
    refine WL.nil ?_
    refine hK18 _ _ ?_; try clear hK18 K18
    first | refine CW.condD rfl (fun ht19 => ?_) (fun ht19 => ?_) | refine CW.condND rfl (fun ht19 => ?_) (fun ht19 => ?_) | refine CW.condN rfl (fun ht19 => ?_) (fun ht19 => ?_) | refine CW.cond rfl (fun ht19 => ?_) (fun ht19 => ?_)
    · -- then
      refine CW.seq fun K20 hK20 => ?_
      refine CW.region ?_   -- region 14
      refine WL.store (g := g6) (pre := []) (old := [.bool false]) (post := []) (new := [.bool true]) rfl rfl rfl rfl (by kernel_rfl) hB6 (by first | rfl | (simp [digC_length, opC_length]; done) | (simp only [digC_length, opC_length]; omega)) (one1 rfl) (fun w26 hc26 hB26_ => ?_)   -- _ := store 4 t6 c(true)
      have hz26 := hc26.size; have hE := hE.step hc26 (fun k h => by omega); have hB4 := hB4.chg hc26 (fun h => by omega); have hB5 := hB5.chg hc26 (fun h => by omega); have hB7 := hB7.chg hc26 (fun h => by omega); have hB8 := hB8.chg hc26 (fun h => by omega); have hB10 := hB10.chg hc26 (fun h => by omega); have hB11 := hB11.chg hc26 (fun h => by omega); have hB12 := hB12.chg hc26 (fun h => by omega); have hB13 := hB13.chg hc26 (fun h => by omega)
      have hB6 : Blk w26 g6 4 [.bool true] := by simpa using hB26_
      have hCC := hJJ.trans hc26 (fun _ _ h => .inr (.inl h))
      refine WL.nil ?_
      refine hK20 _ _ ?_; try clear hK20 K20
      refine CW.ret ?_
      exact ⟨⟨rfl, hB6, hE⟩, hCC.mono fun k _ h => by
        have hlt : k < w18.heap.size := by
          rcases h with h | h | h
          · have := (hFl k h).2; omega
          · omega
          · omega
        exact ⟨fun hk => by have h1 := hk.1; omega, by omega, by omega⟩⟩
    -- else
    refine CW.skip ?_
    refine hK17 _ _ ?_; try clear hK17 K17
    refine CW.region ?_   -- region 15
    refine WL.val (Y.load1 Try.underlying3 rfl hB12.mem.cell0 rfl) (by first | decide | exact Nat.le_of_ble_eq_true rfl) ?_   -- t72 := load 3 t12
    refine WL.val (Y.add rfl rfl ⟨by omega, by omega⟩) (by first | decide | exact Nat.le_of_ble_eq_true rfl) ?_   -- t73 := binOp add 3 t72 c(1:i64) 3
    refine WL.store (g := g12) (pre := []) (old := [.int .i64 (i_ : Int)]) (post := []) (new := [.int .i64 ((i_ : Int) + 1)]) rfl rfl rfl rfl (by kernel_rfl) hB12 (by first | rfl | (simp [digC_length, opC_length]; done) | (simp only [digC_length, opC_length]; omega)) (one1 rfl) (fun w27 hc27 hB27_ => ?_)   -- _ := store 3 t12 t73
    have hz27 := hc27.size; have hE := hE.step hc27 (fun k h => by omega); have hB4 := hB4.chg hc27 (fun h => by omega); have hB5 := hB5.chg hc27 (fun h => by omega); have hB6 := hB6.chg hc27 (fun h => by omega); have hB7 := hB7.chg hc27 (fun h => by omega); have hB8 := hB8.chg hc27 (fun h => by omega); have hB10 := hB10.chg hc27 (fun h => by omega); have hB11 := hB11.chg hc27 (fun h => by omega); have hB13 := hB13.chg hc27 (fun h => by omega)
    have hB12 : Blk w27 g12 3 [.int .i64 ((i_ + 1 : Nat) : Int)] := by simpa using hB27_
    have hCC := hJJ.trans hc27 (fun _ _ h => .inr (.inr h))
    refine WL.nil ?_
    exact ⟨⟨hlo, hlh, by omega, hB4, hB5, hB6, hB7, hB8, hB10, hB11, hB12, hO.chg hc27 (fun k hk h => by have := hOl k hk; have := hfO k hk; omega), hRt.chg hc27 (fun q hq h => by have := (hRl q hq).2; omega), hN.chg hc27 (fun q hq h => by have := (hFl _ (hNl q hq)).2; omega), (fun h => by omega), hE⟩, hCC.mono fun k _ h => by
      have hlt : k < w18.heap.size := by
        rcases h with h | h | h
        · have := (hFl k h).2; omega
        · omega
        · omega
      exact ⟨fun hk => by have h1 := hk.1; omega, by omega, by omega⟩⟩
  · intro s_ w28 hi_ hD_ hfin_
    obtain ⟨hlo, hlh, hhi, hB4, hB5, hB6, hB7, hB8, hB10, hB11, hB12, hO, hRt, hN, hT, hE⟩ := hi_
    have hxl : (allXs8 (Fw.els ns) s_).length = sm := by simp only [allXs8, List.length_map]; rw [hfe]; exact hsm
    rw [hxl] at hB12
    refine hK8 _ _ _ ?_; try clear hK8 K8
    refine CN.seq fun K21 hK21 => ?_
    refine CN.of_CW ?_
    refine CW.region ?_   -- region 16
    refine WL.val (Y.load1 Try.underlying3 rfl hB12.mem.cell0 rfl) (by first | decide | exact Nat.le_of_ble_eq_true rfl) ?_   -- t74 := load 3 t12
    refine WL.val (Y.load1 Try.underlying43 rfl hB10.mem.cell0 rfl) (by first | decide | exact Nat.le_of_ble_eq_true rfl) ?_   -- t75 := load 43 t10
    refine WL.val (Y.len_slice Try.underlying43 rfl) (by first | decide | exact Nat.le_of_ble_eq_true rfl) ?_   -- t76 := call len(t75) : 43
    refine WL.val (Y.eql rfl rfl) (by first | decide | exact Nat.le_of_ble_eq_true rfl) ?_   -- t77 := binOp eql 3 t74 t76 3
    refine WL.store (g := g6) (pre := []) (old := [.bool false]) (post := []) (new := [.bool (decide ((sm : Int) = (sm : Int)))]) rfl rfl rfl rfl (by kernel_rfl) hB6 (by first | rfl | (simp [digC_length, opC_length]; done) | (simp only [digC_length, opC_length]; omega)) (one1 rfl) (fun w29 hc29 hB29_ => ?_)   -- _ := store 4 t6 t77
    have hz29 := hc29.size; have hE := hE.step hc29 (fun k h => by omega); have hB4 := hB4.chg hc29 (fun h => by omega); have hB5 := hB5.chg hc29 (fun h => by omega); have hB7 := hB7.chg hc29 (fun h => by omega); have hB8 := hB8.chg hc29 (fun h => by omega); have hB10 := hB10.chg hc29 (fun h => by omega); have hB11 := hB11.chg hc29 (fun h => by omega); have hB12 := hB12.chg hc29 (fun h => by omega)
    have hB6 : Blk w29 g6 4 [.bool true] := by simpa using hB29_
    refine WL.nil ?_
    refine hK21 _ _ _ ?_; try clear hK21 K21
    refine CN.ret ?_
    exact ⟨[w18.heap.size], rfl, by simp, (fun D hD => by simp at hD; subst hD; exact def_chg hD_ hc29 (fun h => by omega)), fun w_ hc => ⟨_, _, rfl, ((hB6.chg hc (fun h => by simp at h; omega)).mem).cell0, rfl, hE.step hc (fun k h => by simp at h; omega)⟩⟩
  · intro s_ e_ w30 hi_ hD_ hfin_ he_
    obtain ⟨rfl, hi_⟩ := hi_
    obtain ⟨hB6, hE⟩ := hi_
    exact ⟨[w18.heap.size], rfl, by simp, (fun D hD => by simp at hD; subst hD; exact hD_), fun w_ hc => ⟨_, _, rfl, ((hB6.chg hc (fun h => by simp at h; omega)).mem).cell0, rfl, hE.step hc (fun k h => by simp at h; omega)⟩⟩
end Go.Proofs.Ytffkmlkdlhkkmaa
