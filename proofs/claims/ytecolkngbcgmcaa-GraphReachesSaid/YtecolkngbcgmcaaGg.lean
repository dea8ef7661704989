/- A look's marks, walked. No condition. -/
import Derived.Test.YtecolkngbcgmcaaGf
set_option linter.unusedSimpArgs false
set_option linter.unusedVariables false
namespace Go.Proofs.Ytecolkngbcgmcaa
open Go.RowKit Go.Fw Go.Pl
abbrev TSb : TypeId := 58

set_option maxHeartbeats 1000000 in
theorem gmarks_any (wb w : World) (gk r sb : Nat) (u v0 : Value) (l : List NdV) (ids : List Dig) (S0 : List Bool) (hK : LookAt wb w gk r sb u l S0) (hd : Sl wb digC 32 v0 ids) (hin : ∀ d ∈ ids, d ∈ idsL (ndsL l)) : Calls Try.prog 42 #[.pointer (some ⟨gk, 0, none⟩), v0] w (Ret fun v w' => ∃ b, v = .slice (some ⟨b, 0, none⟩) l.length l.length ∧ w.heap.size ≤ b ∧ Blk w' b TBo (boolC (markS (ndsL l) ids)) ∧ (∃ S, LookAt wb w' gk r sb u l S) ∧ Chg (fun k => k = sb) w w') := by
  obtain ⟨A1, c1, rfl, hdc, hdx⟩ := hd.lens
  obtain ⟨m1, hm1⟩ : ∃ m1, m1 = ids.length := ⟨_, rfl⟩
  rw [← hm1] at hd ⊢
  obtain ⟨A, c, rfl, hmc, hcm⟩ := hK.nds.sl.lens
  unfold maxLen at hcm
  have hln := ok_len hK.ok
  have hnl : (ndsL l).length = l.length := by simp
  have hltK := hK.lt
  have hzK := hK.old.size
  obtain ⟨bi, hbi, hbz, hbs, hbb⟩ := info_boolT
  refine calls_of_CN 21 [4] [(0, .pointer (some ⟨gk, 0, none⟩)), (1, .slice A1 m1 c1)] Try.func42 rfl rfl rfl (by simp) args2 ?_
  have hE : Chg (fun k => k = sb) w w := Chg.refl
  refine CN.seq fun K1 hK1 => ?_
  refine CN.of_CW ?_
  refine CW.region ?_   -- region 0
  refine WL.val (Y.assign rfl) (by first | decide | exact Nat.le_of_ble_eq_true rfl) ?_   -- t4 := assign c(nilslice)
  refine WL.nil ?_
  refine hK1 _ _ _ ?_; try clear hK1 K1
  refine CN.seq fun K2 hK2 => ?_
  refine CN.of_CW ?_
  refine CW.region ?_   -- region 1
  refine WL.val (Y.move rfl) (by first | decide | exact Nat.le_of_ble_eq_true rfl) ?_   -- t7 := move t0
  refine WL.val (Y.nilCheck rfl) (by first | decide | exact Nat.le_of_ble_eq_true rfl) ?_   -- t8 := nilCheck t7
  refine WL.val (Y.fieldAddr fo_graphlook0 rfl) (by first | decide | exact Nat.le_of_ble_eq_true rfl) ?_   -- t9 := fieldAddr 61 t8 0
  refine WL.val (Y.load1 Try.underlying22 rfl hK.blk.mem.graphlook0 rfl) (by first | decide | exact Nat.le_of_ble_eq_true rfl) ?_   -- t10 := load 22 t9
  refine WL.val (Y.len_slice Try.underlying22 rfl) (by first | decide | exact Nat.le_of_ble_eq_true rfl) ?_   -- t11 := call len(t10) : 22
  refine WL.st (St.makeB Try.underlying58 hbi hbz hbs hbb rfl rfl (by omega)) (by first | decide | exact Nat.le_of_ble_eq_true rfl) fun v12 w1 hR1 => ?_   -- t12 := makeSlice 58 t11 t11
  obtain ⟨b, rfl, hb, hIn, hx1⟩ := hR1
  have hz1 := hx1.size
  have hE := hE.thenExt hx1
  have hK := hK.ext hx1
  have hltb := hIn.lt
  refine WL.allocStore1 (by kernel_rfl) rfl (by simp) rfl rfl (by first | decide | exact Nat.le_of_ble_eq_true rfl) fun g5 w2 hx2 hg5 hB5 => ?_   -- alloc 58; store 58 t5 t12
  have hlt5 := hB5.lt; have hz2 := hx2.size
  have hM5 := hB5.mem; have hz2 := hx2.size; have hE := hE.thenExt hx2; have hK := hK.ext hx2
  refine WL.nil ?_
  refine hK2 _ _ _ ?_; try clear hK2 K2
  refine CN.seq fun K3 hK3 => ?_
  refine CN.seq fun K4 hK4 => ?_
  refine CN.of_CW ?_
  refine CW.region ?_   -- region 2
  refine WL.val (Y.move rfl) (by first | decide | exact Nat.le_of_ble_eq_true rfl) ?_   -- t13 := move t0
  refine WL.val (Y.move rfl) (by first | decide | exact Nat.le_of_ble_eq_true rfl) ?_   -- t14 := move t1
  refine WL.call Try.func48 rfl rfl rfl (greach_any ⟨gk, 0, none⟩ A1 m1 c1 _) (by simp) ?_; rintro v15 w3 hR3   -- t15 := call F48(t13, t14) : 55,23
  obtain ⟨b1, b2, rfl, hb1, hb2, hBb1, hBb2, hx3⟩ := hR3
  have hz3 := hx3.size
  have hE := hE.thenExt hx3
  have hK := hK.ext hx3
  have hIn := (hIn.ext hx2).ext hx3
  have hB5 := hB5.ext hx3
  have hltb1 := hBb1.lt
  have hltb2 := hBb2.lt
  refine WL.nil ?_
  refine hK4 _ _ _ ?_; try clear hK4 K4
  refine CN.block ?_   -- block 0
  refine CN.range (rfl) Try.func56 rfl rfl (greach1_any wb _ gk r sb b1 b2 _ _ l ids _ hK hd hin hBb1 hBb2 ⟨by omega, by omega, by omega, by omega⟩) (fun _ => rfl) (by first | decide | exact Nat.le_of_ble_eq_true rfl) (fun k h => by omega) (fun w1 s V hz _ i hk => by rcases hk with h | h | h | h | h | h <;> omega) (fun _ i V => Blk V g5 TSb [.slice (some ⟨b, 0, none⟩) l.length l.length] ∧ Blk V b TBo (boolC (setI (List.replicate l.length false) ((reachL (ndsL l) ids).take i))) ∧ Chg (fun k => k = sb) w V) (fun _ _ _ => False) ?_ ?_ ?_ ?_ ?_ ?_
  · intro w1_ s_ V hw_ hz_ hc_ hs_
    exact ⟨(hB5.ext hw_).chg hc_ (fun h => by omega), by simpa [setI] using (hIn.ext hw_).chg hc_ (fun h => by omega), (hE.thenExt hw_).stepO hc_ (fun k h => .inl h)⟩
  · intro s_ i_ V V_ hi_ hc_
    obtain ⟨hB5, hIn, hE⟩ := hi_
    exact ⟨hB5.chg hc_ (fun h => by rcases h with h | h <;> omega), hIn.chg hc_ (fun h => by rcases h with h | h <;> omega), hE.stepO hc_ (fun k h => by rcases h with h | h; exact .inl h; exact .inr (by omega))⟩
  · intro s_ e_ V V_ hi_ hc_
    exact hi_.elim
  · intro s_ i_ x_ w4 hi_ hx_ hat_ hz_
    obtain ⟨hB5, hIn, hE⟩ := hi_
    have hxl := reachD_lt (List.mem_of_getElem? hx_)
    rw [hnl] at hxl
    obtain ⟨cb, hcb⟩ : ∃ cb, (setI (List.replicate l.length false) ((reachL (ndsL l) ids).take i_))[x_]? = some cb := ⟨_, List.getElem?_eq_getElem (by rw [setI_length, List.length_replicate]; exact hxl)⟩
    refine CW.region ?_   -- region 3
    refine WL.val (Y.assign rfl) (by first | decide | exact Nat.le_of_ble_eq_true rfl) ?_   -- t6 := assign t16
    refine WL.nil ?_
    have hE_ : Ext w4 w4 := Chg.refl
    refine ⟨hE_, fun w5 hc_ => ?_⟩
    have hz5 := hc_.size
    have hB5 := hB5.chg hc_ (fun h => by omega)
    have hIn := hIn.chg hc_ (fun h => by omega)
    have hE := hE.stepO hc_ (fun k h => .inr (by omega))
    refine CW.block ?_   -- block 1
    refine CW.region ?_   -- region 4
    refine WL.val (Y.load1 Try.underlying58 rfl hB5.mem.cell0 rfl) (by first | decide | exact Nat.le_of_ble_eq_true rfl) ?_   -- t17 := load 58 t5
    refine WL.val (Y.move rfl) (by first | decide | exact Nat.le_of_ble_eq_true rfl) ?_   -- t18 := move t6
    refine WL.val (Y.indexAddrN Try.underlying58 rfl rfl sz0_bool (by omega)) (by first | decide | exact Nat.le_of_ble_eq_true rfl) ?_   -- t19 := indexAddr 58 t17 t18
    refine WL.storeB rfl rfl rfl sz_bool hIn hcb (fun w6 hc6 hB6_ => ?_)   -- _ := store 4 t19 c(true)
    have hz6 := hc6.size; have hE := hE.stepO hc6 (fun k h => (by show (k = sb) ∨ _; omega)); have hB5 := hB5.chg hc6 (fun h => by omega)
    skip
    refine WL.nil ?_
    refine ⟨⟨hB5, ?_, hE⟩, hc6.mono fun k _ h => ⟨fun hk => by rcases hk with h | h | h | h | h | h <;> omega, by omega, by omega⟩⟩
    rw [take_succ hx_, setI_app]
    exact hB6_
  · intro s_ w7 hi_ hD_ hfin_
    obtain ⟨hB5, hIn, hE⟩ := hi_
    obtain ⟨V0, ⟨S2, hKf⟩, hcf⟩ := hfin_
    have hK := hKf.chg hcf (fun h => by omega) (fun h => by omega) (fun h => by omega) (fun k h => by omega)
    rw [List.take_length] at hIn
    refine hK3 _ _ _ ?_; try clear hK3 K3
    refine CN.seq fun K5 hK5 => ?_
    refine CN.of_CW ?_
    refine CW.region ?_   -- region 5
    refine WL.val (Y.load1 Try.underlying58 rfl hB5.mem.cell0 rfl) (by first | decide | exact Nat.le_of_ble_eq_true rfl) ?_   -- t20 := load 58 t5
    refine WL.val (Y.assign rfl) (by first | decide | exact Nat.le_of_ble_eq_true rfl) ?_   -- t4 := assign t20
    refine WL.nil ?_
    refine hK5 _ _ _ ?_; try clear hK5 K5
    refine CN.ret ?_
    exact ⟨[w3.heap.size], rfl, by simp, (fun D hD => by simp at hD; subst hD; exact hD_), _, rfl, fun w_ hc => ⟨b, rfl, hb, by rw [markS, hnl]; exact hIn.chg hc (fun h => by simp at h; omega), ⟨S2, hK.chg hc (fun h => by simp at h; omega) (fun h => by simp at h; omega) (fun h => by simp at h; omega) (fun k h => by simp at h; omega)⟩, hE.stepO hc (fun k h => .inr (by simp at h; omega))⟩⟩
  · intro s_ e_ w8 hi_ hD_ hfin_ he_
    exact hi_.elim
end Go.Proofs.Ytecolkngbcgmcaa
