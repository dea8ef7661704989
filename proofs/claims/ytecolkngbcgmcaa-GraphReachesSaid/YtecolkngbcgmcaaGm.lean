/- graph.Above, walked. No condition. -/
import Derived.Test.YtecolkngbcgmcaaGj
set_option linter.unusedSimpArgs false
set_option linter.unusedVariables false
namespace Go.Pl
open Go.Fw
def idAt (l : List Nd) (i : Nat) : Dig := ((l[i]?).map Nd.id).getD Dig.zero
def aboveL (l : List Nd) (ids : List Dig) : List Dig := sortedD ((reachL l ids).map (idAt l))
end Go.Pl
namespace Go.Proofs.Ytecolkngbcgmcaa
open Go.RowKit Go.Fw Go.Pl Go.Sort
abbrev TSn : TypeId := 22

set_option maxRecDepth 100000 in
set_option maxHeartbeats 2000000 in
theorem gAbove_any (u v0 : Value) (l : List NdV) (ids : List Dig) (w : World) (hl : Nds w u l) (hd : Sl w digC 32 v0 ids) : Calls Try.prog 33 #[u, v0] w (Ret fun v w' => ∃ hv, v = .tuple #[hv, .int .i64 (wrongQ (ndsL l) ids)] ∧ Own w' TDg 32 hv (flatD (if wrongQ (ndsL l) ids = 0 then aboveL (ndsL l) ids else [])) ∧ (∀ k, hv.ownBlock = some k → w.heap.size ≤ k) ∧ Ext w w') := by
  have hl0 := hl
  obtain ⟨A, c, rfl, hmc, hcm⟩ := hl.sl.lens
  unfold maxLen at hcm
  have hd0 := hd
  obtain ⟨A1, m1, c1, rfl, hdm, hdc, hdx, hdg⟩ := hd
  unfold maxLen at hdx
  have hnl : (ndsL l).length = l.length := by simp
  refine calls_of_CN 35 [4, 5] [(0, .slice A l.length c), (1, .slice A1 m1 c1)] Try.func33 rfl rfl rfl (by simp) args2 ?_
  have hE : Ext w w := Chg.refl
  refine CN.seq fun K1 hK1 => ?_
  refine CN.of_CW ?_
  refine CW.region ?_   -- region 0
  refine WL.box rfl rfl (by first | decide | exact Nat.le_of_ble_eq_true rfl) fun g2 w1 hx1 hg2 hB2 => ?_   -- t2 := box 22 t0
  have hlt2 := hB2.lt; have hz1 := hx1.size
  have hM2 := hB2.mem; have hz1 := hx1.size; have hE := hE.thenExt hx1
  refine WL.val (Y.assign rfl) (by first | decide | exact Nat.le_of_ble_eq_true rfl) ?_   -- t4 := assign c(nilslice)
  refine WL.val (Y.assign rfl) (by first | decide | exact Nat.le_of_ble_eq_true rfl) ?_   -- t5 := assign c(0:i64)
  refine WL.nil ?_
  refine hK1 _ _ _ ?_; try clear hK1 K1
  refine CN.seq fun K2 hK2 => ?_
  refine CN.of_CW ?_
  refine CW.region ?_   -- region 1
  refine WL.val (Y.load1 Try.underlying22 rfl hB2.mem.cell0 rfl) (by first | decide | exact Nat.le_of_ble_eq_true rfl) ?_   -- t11 := load 22 t2
  refine WL.val (Y.move rfl) (by first | decide | exact Nat.le_of_ble_eq_true rfl) ?_   -- t12 := move t1
  refine WL.st (St.buildSlice rfl (bs1_sd _ _ _)) (by first | decide | exact Nat.le_of_ble_eq_true rfl) fun v13 w2 hR2 => ?_   -- t13 := buildSlice 78 1 [(0,t12)]
  obtain ⟨g14, rfl, hg14, hB14, hx2⟩ := hR2
  have hz2 := hx2.size
  have hx12 := hx1.thenExt hx2
  have hE := hE.thenExt hx2
  have hB2 := hB2.ext hx2
  refine WL.call Try.func35 rfl rfl rfl (gbegin_any _ _ l [(.slice A1 m1 c1, ids)] _ (hl0.ext hx12) (Blk.slV (ds := [(.slice A1 m1 c1, ids)]) hB14 (by simp [maxLen])) (fun x hx => by simp at hx; subst hx; exact hd0.ext hx12)) (by simp) ?_; rintro v14 w3 hR3   -- t14 := call F35(t11, t13) : 22,78
  obtain ⟨p, rfl, hx3, hp⟩ := hR3
  have hz3 := hx3.size
  have hE := hE.thenExt hx3
  have hB2 := hB2.ext hx3
  have hfl : ([((.slice A1 m1 c1 : Value), ids)].map Prod.snd).flatten = ids := by simp
  simp only [hfl] at hp ⊢
  refine WL.val (Y.move rfl) (by first | decide | exact Nat.le_of_ble_eq_true rfl) ?_   -- t10 := move t14
  refine WL.val (Y.extract rfl rfl) (by first | decide | exact Nat.le_of_ble_eq_true rfl) ?_   -- t15 := extract t10 0
  refine WL.val (Y.extract rfl rfl) (by first | decide | exact Nat.le_of_ble_eq_true rfl) ?_   -- t16 := extract t10 1
  refine WL.val (Y.assign rfl) (by first | decide | exact Nat.le_of_ble_eq_true rfl) ?_   -- t6 := assign t15
  refine WL.val (Y.assign rfl) (by first | decide | exact Nat.le_of_ble_eq_true rfl) ?_   -- t7 := assign t16
  refine WL.nil ?_
  refine hK2 _ _ _ ?_; try clear hK2 K2
  refine CN.seq fun K3 hK3 => ?_
  refine CN.seq fun K4 hK4 => ?_
  refine CN.of_CW ?_
  refine CW.region ?_   -- region 2
  refine WL.val (Y.move rfl) (by first | decide | exact Nat.le_of_ble_eq_true rfl) ?_   -- t17 := move t7
  refine WL.val (Y.neq rfl rfl) (by first | decide | exact Nat.le_of_ble_eq_true rfl) ?_   -- t18 := binOp neq 24 t17 c(0:i64) 24
  refine WL.nil ?_
  refine hK4 _ _ _ ?_; try clear hK4 K4
  first | refine CN.condD rfl (fun ht5 => ?_) (fun ht5 => ?_) | refine CN.condND rfl (fun ht5 => ?_) (fun ht5 => ?_) | refine CN.condN rfl (fun ht5 => ?_) (fun ht5 => ?_) | refine CN.cond rfl (fun ht5 => ?_) (fun ht5 => ?_)
  · -- then
    refine CN.seq fun K6 hK6 => ?_
    refine CN.of_CW ?_
    refine CW.region ?_   -- region 3
    refine WL.val (Y.move rfl) (by first | decide | exact Nat.le_of_ble_eq_true rfl) ?_   -- t19 := move t7
    refine WL.val (Y.assign rfl) (by first | decide | exact Nat.le_of_ble_eq_true rfl) ?_   -- t4 := assign c(nilslice)
    refine WL.val (Y.assign rfl) (by first | decide | exact Nat.le_of_ble_eq_true rfl) ?_   -- t5 := assign t19
    refine WL.nil ?_
    refine hK6 _ _ _ ?_; try clear hK6 K6
    refine CN.ret ?_
    have he : ¬ wrongQ (ndsL l) ids = 0 := by assumption
    exact ⟨[], rfl, List.nodup_nil, (fun D hD => by cases hD), _, rfl, fun w_ hc => ⟨_, rfl, by rw [if_neg he]; exact Own.nil, (fun k h => by simp [Value.ownBlock] at h), hE.step hc (fun k h => by cases h)⟩⟩
  -- else
  refine CN.skip ?_
  refine hK3 _ _ _ ?_; try clear hK3 K3
  refine CN.seq fun K7 hK7 => ?_
  refine CN.of_CW ?_
  have hq0 : wrongQ (ndsL l) ids = 0 := Decidable.not_not.1 (by assumption)
  obtain ⟨gk, r, sb, rfl, hK⟩ := hp hq0
  have hin := wrongQ_in hq0
  have hln := ok_len hK.ok
  have hltK := hK.lt
  have hnew := hK.new
  refine CW.region ?_   -- region 4
  refine WL.alloc1 (z := .slice none 0 0) (by kernel_rfl) rfl (by first | decide | exact Nat.le_of_ble_eq_true rfl) fun g8 w4 hx4 hg8 hB8 => ?_   -- t8 := alloc 23
  have hlt8 := hB8.lt; have hz4 := hx4.size
  have hM8 := hB8.mem; have hz4 := hx4.size; have hE := hE.thenExt hx4; have hB2 := hB2.ext hx4
  refine WL.nil ?_
  refine hK7 _ _ _ ?_; try clear hK7 K7
  refine CN.seq fun K8 hK8 => ?_
  refine CN.seq fun K9 hK9 => ?_
  refine CN.of_CW ?_
  refine CW.region ?_   -- region 5
  refine WL.val (Y.move rfl) (by first | decide | exact Nat.le_of_ble_eq_true rfl) ?_   -- t20 := move t6
  refine WL.val (Y.move rfl) (by first | decide | exact Nat.le_of_ble_eq_true rfl) ?_   -- t21 := move t1
  refine WL.call Try.func48 rfl rfl rfl (greach_any ⟨gk, 0, none⟩ A1 m1 c1 _) (by simp) ?_; rintro v22 w5 hR5   -- t22 := call F48(t20, t21) : 55,23
  obtain ⟨b1, b2, rfl, hb1, hb2, hBb1, hBb2, hx5⟩ := hR5
  have hz5 := hx5.size
  have hE := hE.thenExt hx5
  have hK := (hK.ext hx4).ext hx5
  have hB2 := hB2.ext hx5
  have hB8 := hB8.ext hx5
  have hltb1 := hBb1.lt
  have hltb2 := hBb2.lt
  have hzK := hK.old.size
  refine WL.nil ?_
  refine hK9 _ _ _ ?_; try clear hK9 K9
  refine CN.block ?_   -- block 0
  refine CN.range (rfl) Try.func56 rfl rfl (greach1_any w2 _ gk r sb b1 b2 _ _ l ids _ hK (hd0.ext hx12) hin hBb1 hBb2 ⟨by omega, by omega, by omega, by omega⟩) (fun _ => rfl) (by first | decide | exact Nat.le_of_ble_eq_true rfl) (fun k h => by omega) (fun w1 s V hz _ i hk => by rcases hk with h | h | h | h | h | h <;> omega) (fun _ i V => Blk V g2 TSn [.slice A l.length c] ∧ (∃ v, Blk V g8 TSd [v] ∧ Own V TDg 32 v (flatD (((reachL (ndsL l) ids).take i).map (idAt (ndsL l)))) ∧ (∀ k, v.ownBlock = some k → w5.heap.size + 2 ≤ k)) ∧ Ext w V) (fun _ _ _ => False) ?_ ?_ ?_ ?_ ?_ ?_
  · intro w1_ s_ V hw_ hz_ hc_ hs_
    exact ⟨(hB2.ext hw_).chg hc_ (fun h => by omega), ⟨.slice none 0 0, (hB8.ext hw_).chg hc_ (fun h => by omega), Own.nil, (fun k h => by simp [Value.ownBlock] at h)⟩, (hE.thenExt hw_).step hc_ (fun k h => by omega)⟩
  · intro s_ i_ V V_ hi_ hc_
    obtain ⟨hB2, ⟨v, hB8, hO, hfu⟩, hE⟩ := hi_
    exact ⟨hB2.chg hc_ (fun h => by rcases h with h | h <;> omega), ⟨v, hB8.chg hc_ (fun h => by rcases h with h | h <;> omega), hO.chg hc_ (fun k hk h => by have := hfu k hk; rcases h with h | h <;> omega), hfu⟩, hE.step hc_ (fun k h => by rcases h with h | h <;> omega)⟩
  · intro s_ e_ V V_ hi_ hc_
    exact hi_.elim
  · intro s_ i_ x_ w6 hi_ hx_ hat_ hz_
    obtain ⟨hB2, ⟨v, hB8, hO, hfu⟩, hE⟩ := hi_
    have hxl := reachD_lt (List.mem_of_getElem? hx_)
    rw [hnl] at hxl
    obtain ⟨y, hy⟩ : ∃ y, l[x_]? = some y := ⟨_, List.getElem?_eq_getElem (by omega)⟩
    obtain ⟨⟨id, ps⟩, Ay, cy⟩ := y
    obtain ⟨a, rfl, hma⟩ := hl0.sl.at hy
    have hidy : idAt (ndsL l) x_ = id := by simp [idAt, hy]
    obtain ⟨B, mb, cb, rfl⟩ := hO.lens
    have hlo := hO.lt
    have hxj := (List.getElem?_eq_some_iff.1 hx_).1
    have hrl : (reachL (ndsL l) ids).length ≤ l.length := by have := reachD_le (l := ndsL l) (k := (ndsL l).length) (S := mark0 (ndsL l) ids); rw [hnl] at this; rw [reachL, hnl]; exact this
    refine CW.region ?_   -- region 6
    refine WL.val (Y.assign rfl) (by first | decide | exact Nat.le_of_ble_eq_true rfl) ?_   -- t9 := assign t23
    refine WL.nil ?_
    have hE_ : Ext w6 w6 := Chg.refl
    refine ⟨hE_, fun w7 hc_ => ?_⟩
    have hz7 := hc_.size
    have hB2 := hB2.chg hc_ (fun h => by omega)
    have hB8 := hB8.chg hc_ (fun h => by omega)
    have hO := hO.chg hc_ (fun k hk h => by have := hfu k hk; omega)
    have hE := hE.step hc_ (fun k h => by omega)
    refine CW.block ?_   -- block 1
    refine CW.held (fun wq => Chg (fun k => k = g8 ∨ (Value.slice B mb cb).ownBlock = some k) w7 wq) (by kernel_rfl) 9 rfl fun w8 hx8 => ?_
    have hS : Chg (fun k => k = g8 ∨ (Value.slice B mb cb).ownBlock = some k) w7 w8 := hx8.chg
    have hz8 := hx8.size
    have hB8 := hB8.ext hx8
    have hO := hO.ext hx8
    refine RH.take 1 (fun _ _ _ _ h => h) (by kernel_rfl) hS rfl (by kernel_rfl) (by kernel_rfl) (fun wq hq => Y.load1 Try.underlying22 rfl (hB2.chg hq (fun h => by rcases h with h | h; omega; have := hfu _ h; omega)).mem.cell0 rfl) (by first | decide | exact Nat.le_of_ble_eq_true rfl) ?_   -- t25 := load 22 t2
    refine RH.take 2 (fun _ _ _ _ h => h) (by kernel_rfl) hS rfl (by kernel_rfl) (by kernel_rfl) (fun wq hq => Y.move rfl) (by first | decide | exact Nat.le_of_ble_eq_true rfl) ?_   -- t26 := move t9
    refine RH.take 3 (fun _ _ _ _ h => h) (by kernel_rfl) hS rfl (by kernel_rfl) (by kernel_rfl) (fun wq hq => Y.indexAddrN Try.underlying22 rfl rfl sz0_apiNode (by omega)) (by first | decide | exact Nat.le_of_ble_eq_true rfl) ?_   -- t27 := indexAddr 22 t25 t26
    refine RH.take 4 (fun _ _ _ _ h => h) (by kernel_rfl) hS rfl (by kernel_rfl) (by kernel_rfl) (fun wq hq => Y.fieldAddr fo_apiNode0 rfl) (by first | decide | exact Nat.le_of_ble_eq_true rfl) ?_   -- t28 := fieldAddr 48 t27 0
    refine RH.take 5 (fun _ _ _ _ h => h) (by kernel_rfl) hS rfl (by kernel_rfl) (by kernel_rfl) (fun wq hq => Y.load Try.underlying45 rfl (hma.ext (hE.step hq (fun k h => by rcases h with h | h; omega; have := hfu k h; omega))).node0 (sz_apiDigest _) rfl) (by first | decide | exact Nat.le_of_ble_eq_true rfl) ?_   -- t29 := load 45 t28
    refine RH.two 0 6 (by kernel_rfl) ?_ ?_
    · skip
      refine RS.val rfl (Y.load1 Try.underlying23 rfl hB8.mem.cell0 rfl) (by first | decide | exact Nat.le_of_ble_eq_true rfl) ⟨hS, ?_⟩   -- t24 := load 23 t8
      refine RH.one 6 (by kernel_rfl) ?_
      refine RS.st rfl (St.buildSlice rfl (bs1_dig _)) (by first | decide | exact Nat.le_of_ble_eq_true rfl) fun v30 w9 hR9 => ?_   -- buildSlice 23 1 [(0,t29)]
      obtain ⟨g30, rfl, hg30, hB30, hx9⟩ := hR9
      have hz9 := hx9.size
      have hS := hS.thenExt hx9
      have hO := hO.ext hx9
      have hB8 := hB8.ext hx9
      refine ⟨hS, ?_⟩
      refine RH.one 7 (by kernel_rfl) ?_
      refine RS.st rfl (St.append Try.underlying23 Try.underlying23 ai_dig rfl rfl hO (Src.one hB30 (digC_length _)) one_digC (by rw [flat_length digC_length, List.length_map, List.length_take]; omega)) (by first | decide | exact Nat.le_of_ble_eq_true rfl) fun v31 w10 hR10 => ?_   -- call append(t24, t30) : 23,23
      obtain ⟨hO10, hc10, hf10⟩ := hR10
      have hz10 := hc10.size
      have hS := hS.trans hc10 (fun k _ h => .inr h)
      have hf10 : ∀ k, v31.ownBlock = some k → w5.heap.size + 2 ≤ k := by
        rcases hf10 with h | h
        · intro k hk; rw [h] at hk; exact hfu k hk
        · intro k hk; have := h k hk; omega
      have hB8 := hB8.chg hc10 (fun h => by have := hfu _ h; omega)
      obtain ⟨A10, m10, c10, rfl⟩ := hO10.lens
      refine ⟨hS, ?_⟩
      refine RH.one 8 (by kernel_rfl) ?_
      refine RS.store rfl (g := g8) (pre := []) (old := [.slice B mb cb]) (post := []) (new := [.slice A10 m10 c10]) rfl rfl rfl rfl (by kernel_rfl) (by simpa using hB8) rfl (one1 rfl) (fun w11 hc11 hB11_ => ?_)   -- store 23 t8 t31
      have hB8 : Blk w11 g8 TSd [.slice A10 m10 c10] := by simpa using hB11_
      have hO11 := hO10.chg hc11 (fun k hk h => by have := hf10 k hk; omega)
      have hS := hS.trans hc11 (fun k _ h => .inl h)
      refine ⟨hS, ?_⟩
      refine RH.done (by kernel_rfl) ?_
      have hE := hE.step hS (fun k h => by rcases h with h | h; omega; have := hfu k h; omega)
      have hB2 := hB2.chg hS (fun h => by rcases h with h | h; omega; have := hfu _ h; omega)
      refine ⟨⟨hB2, ⟨_, hB8, ?_, hf10⟩, hE⟩, hS.mono fun k _ h => ⟨fun hk => ?_, ?_, ?_⟩⟩
      · rw [take_succ hx_, List.map_append, List.map_cons, List.map_nil, hidy]
        simpa [flatD] using hO11
      · have h2 : k = g8 ∨ w5.heap.size + 2 ≤ k := by rcases h with h | h; exact .inl h; exact .inr (hfu k h)
        rcases hk with h | h | h | h | h | h <;> omega
      · rcases h with h | h
        · omega
        · have := hfu k h; omega
      · rcases h with h | h
        · omega
        · have := hfu k h; omega
    · skip
      refine RS.st rfl (St.buildSlice rfl (bs1_dig _)) (by first | decide | exact Nat.le_of_ble_eq_true rfl) fun v30 w12 hR12 => ?_   -- buildSlice 23 1 [(0,t29)]
      obtain ⟨g30, rfl, hg30, hB30, hx12⟩ := hR12
      have hz12 := hx12.size
      have hS := hS.thenExt hx12
      have hO := hO.ext hx12
      have hB8 := hB8.ext hx12
      refine ⟨hS, ?_⟩
      refine RH.one 0 (by kernel_rfl) ?_
      refine RS.val rfl (Y.load1 Try.underlying23 rfl hB8.mem.cell0 rfl) (by first | decide | exact Nat.le_of_ble_eq_true rfl) ⟨hS, ?_⟩   -- t24 := load 23 t8
      refine RH.one 7 (by kernel_rfl) ?_
      refine RS.st rfl (St.append Try.underlying23 Try.underlying23 ai_dig rfl rfl hO (Src.one hB30 (digC_length _)) one_digC (by rw [flat_length digC_length, List.length_map, List.length_take]; omega)) (by first | decide | exact Nat.le_of_ble_eq_true rfl) fun v31 w13 hR13 => ?_   -- call append(t24, t30) : 23,23
      obtain ⟨hO13, hc13, hf13⟩ := hR13
      have hz13 := hc13.size
      have hS := hS.trans hc13 (fun k _ h => .inr h)
      have hf13 : ∀ k, v31.ownBlock = some k → w5.heap.size + 2 ≤ k := by
        rcases hf13 with h | h
        · intro k hk; rw [h] at hk; exact hfu k hk
        · intro k hk; have := h k hk; omega
      have hB8 := hB8.chg hc13 (fun h => by have := hfu _ h; omega)
      obtain ⟨A10, m10, c10, rfl⟩ := hO13.lens
      refine ⟨hS, ?_⟩
      refine RH.one 8 (by kernel_rfl) ?_
      refine RS.store rfl (g := g8) (pre := []) (old := [.slice B mb cb]) (post := []) (new := [.slice A10 m10 c10]) rfl rfl rfl rfl (by kernel_rfl) (by simpa using hB8) rfl (one1 rfl) (fun w14 hc14 hB14_ => ?_)   -- store 23 t8 t31
      have hB8 : Blk w14 g8 TSd [.slice A10 m10 c10] := by simpa using hB14_
      have hO11 := hO13.chg hc14 (fun k hk h => by have := hf13 k hk; omega)
      have hS := hS.trans hc14 (fun k _ h => .inl h)
      refine ⟨hS, ?_⟩
      refine RH.done (by kernel_rfl) ?_
      have hE := hE.step hS (fun k h => by rcases h with h | h; omega; have := hfu k h; omega)
      have hB2 := hB2.chg hS (fun h => by rcases h with h | h; omega; have := hfu _ h; omega)
      refine ⟨⟨hB2, ⟨_, hB8, ?_, hf13⟩, hE⟩, hS.mono fun k _ h => ⟨fun hk => ?_, ?_, ?_⟩⟩
      · rw [take_succ hx_, List.map_append, List.map_cons, List.map_nil, hidy]
        simpa [flatD] using hO11
      · have h2 : k = g8 ∨ w5.heap.size + 2 ≤ k := by rcases h with h | h; exact .inl h; exact .inr (hfu k h)
        rcases hk with h | h | h | h | h | h <;> omega
      · rcases h with h | h
        · omega
        · have := hfu k h; omega
      · rcases h with h | h
        · omega
        · have := hfu k h; omega
  · intro s_ w15 hi_ hD_ hfin_
    obtain ⟨hB2, ⟨v, hB8, hO, hfu⟩, hE⟩ := hi_
    rw [List.take_length] at hO
    obtain ⟨B, mb, cb, rfl⟩ := hO.lens
    have hlv := hO.len digC_length (by decide)
    have hrl : (reachL (ndsL l) ids).length ≤ l.length := by have := reachD_le (l := ndsL l) (k := (ndsL l).length) (S := mark0 (ndsL l) ids); rw [hnl] at this; rw [reachL, hnl]; exact this
    refine hK8 _ _ _ ?_; try clear hK8 K8
    refine CN.seq fun K10 hK10 => ?_
    refine CN.of_CW ?_
    refine CW.region ?_   -- region 8
    refine WL.val (Y.load1 Try.underlying23 rfl hB8.mem.cell0 rfl) (by first | decide | exact Nat.le_of_ble_eq_true rfl) ?_   -- t32 := load 23 t8
    refine WL.call Try.func49 rfl rfl rfl (sort_gen cfO lt_cfO Try.func50 rfl rfl gorder_any _ _ _ _ _ hO (by rw [List.length_map]; omega)) (by simp) ?_; rintro v33 w16 hR16   -- t33 := call F49(t32, F50) : 23,77
    obtain ⟨rfl, hO16, hc16⟩ := hR16
    have hz16 := hc16.size
    have hE := hE.step hc16 (fun k h => by have := hfu k h; omega)
    have hB8 := hB8.chg hc16 (fun h => by have := hfu _ h; omega)
    have hD_ := def_chg hD_ hc16 (fun h => by have := hfu _ h; omega)
    refine WL.nil ?_
    refine hK10 _ _ _ ?_; try clear hK10 K10
    refine CN.seq fun K11 hK11 => ?_
    refine CN.of_CW ?_
    refine CW.region ?_   -- region 9
    refine WL.val (Y.load1 Try.underlying23 rfl hB8.mem.cell0 rfl) (by first | decide | exact Nat.le_of_ble_eq_true rfl) ?_   -- t34 := load 23 t8
    refine WL.val (Y.assign rfl) (by first | decide | exact Nat.le_of_ble_eq_true rfl) ?_   -- t4 := assign t34
    refine WL.val (Y.assign rfl) (by first | decide | exact Nat.le_of_ble_eq_true rfl) ?_   -- t5 := assign c(0:i64)
    refine WL.nil ?_
    refine hK11 _ _ _ ?_; try clear hK11 K11
    refine CN.ret ?_
    exact ⟨[w5.heap.size], rfl, by simp, (fun D hD => by simp at hD; subst hD; exact hD_), _, rfl, fun w_ hc => ⟨_, by rw [hq0], by rw [if_pos hq0]; exact hO16.chg hc (fun k hk h => by have := hfu k hk; simp at h; omega), fun k hk => by have := hfu k hk; omega, hE.step hc (fun k h => by simp at h; omega)⟩⟩
  · intro s_ e_ w17 hi_ hD_ hfin_ he_
    exact hi_.elim
end Go.Proofs.Ytecolkngbcgmcaa
