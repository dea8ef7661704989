/- A store: Put, Drop, walked. No condition. -/
import Derived.Test.YtkbmlnkoejlgmaaDoorXb
import Derived.Test.YtkbmlnkoejlgmaaDoorM1
set_option linter.unusedSimpArgs false
set_option linter.unusedVariables false
namespace Go.Proofs.YtkbmlnkoejlgmaaDoor
open Go.RowKit Go.Fw Go.Pl
/-- What Put answers. -/
def putE (l : List Ent) (b : List UInt8) : Int := if 131072 < b.length then 3 else if (at_ l (shaD b)).isSome = true then (if getB l (shaD b) = b then 0 else 10) else if 500 ≤ l.length then 14 else 0
def putD (l : List Ent) (b : List UInt8) : Dig := if putE l b = 0 then shaD b else Dig.zero
/-- What Put leaves. -/
def PutL (l : List Ent) (b : List UInt8) (l' : List Ent) : Prop := if putE l b = 0 ∧ at_ l (shaD b) = none then ∃ e : Ent, l' = l ++ [e] ∧ e.k = shaD b ∧ e.b = b else l' = l
/-- What comes anew lies in new blocks. -/
def Fresh (w : World) (l l' : List Ent) : Prop := ∀ e ∈ l', e ∈ l ∨ ∀ k, e.v.ownBlock = some k → w.heap.size ≤ k
theorem Fresh.refl {w : World} {l : List Ent} : Fresh w l l := fun _ h => .inl h
theorem Fresh.app {w : World} {l : List Ent} {e : Ent} (h : ∀ k, e.v.ownBlock = some k → w.heap.size ≤ k) : Fresh w l (l ++ [e]) := fun x hx => by
  rcases List.mem_append.1 hx with hx | hx
  · exact .inl hx
  · simp at hx; subst hx; exact .inr h
/-- What Drop leaves. -/
def dropL (l : List Ent) (d : Dig) : List Ent := match at_ l d with | some p => l.eraseIdx p.1 | none => l
theorem dropL_mem {l : List Ent} {d : Dig} {e : Ent} (h : e ∈ dropL l d) : e ∈ l := by
  unfold dropL at h
  split at h
  · exact List.mem_of_mem_eraseIdx h
  · exact h
theorem dropL_none {l : List Ent} {d : Dig} (h : Unlike l) : at_ (dropL l d) d = none := by
  unfold dropL
  cases hp : at_ l d with
  | none => exact hp
  | some p => exact erase_none h (j := p.1) (e := p.2) hp
theorem dropL_same {l : List Ent} {d : Dig} (h : at_ l d = none) : dropL l d = l := by unfold dropL; rw [h]
theorem dropL_some {l : List Ent} {d : Dig} (h : (at_ l d).isSome = true) : l.length = (dropL l d).length + 1 ∧ total l = total (dropL l d) + (getB l d).length := by
  obtain ⟨⟨j, e⟩, hp⟩ := Option.isSome_iff_exists.1 h
  obtain ⟨_, hj, _⟩ := mfind_some hp
  rw [Nat.sub_zero] at hj
  have hjl := (List.getElem?_eq_some_iff.1 hj).1
  simp only [dropL, getB, hp]
  exact ⟨by rw [List.length_eraseIdx, if_pos hjl]; omega, total_erase hj⟩
theorem putE_cases (l : List Ent) (b : List UInt8) : putE l b = 0 ∨ putE l b = 3 ∨ putE l b = 10 ∨ putE l b = 14 := by
  unfold putE; (repeat' split) <;> simp
theorem putL_get {l l' : List Ent} {b : List UInt8} (he : putE l b = 0) (h : PutL l b l') : getI l' (shaD b) = 0 ∧ getB l' (shaD b) = b := by
  unfold PutL at h
  split at h
  · rename_i hn
    obtain ⟨e, rfl, hk, hb⟩ := h
    obtain ⟨j, hj⟩ := at_app_self (l := l) (e := e) (by rw [hk]; exact hn.2)
    rw [hk] at hj
    simp [getI, getB, hj, hb]
  · rename_i hn
    subst h
    cases hp : at_ l' (shaD b) with
    | none => exact absurd ⟨he, hp⟩ hn
    | some p =>
      have hs : (at_ l' (shaD b)).isSome = true := by rw [hp]; rfl
      have hl : ¬ 131072 < b.length := fun h => by rw [putE, if_pos h] at he; omega
      rw [putE, if_neg hl, if_pos hs] at he
      refine ⟨by simp [getI, hp], ?_⟩
      by_cases hb : getB l' (shaD b) = b
      · exact hb
      · rw [if_neg hb] at he; omega
theorem putL_same {l : List Ent} {b : List UInt8} (h : putE l b ≠ 0 ∨ (at_ l (shaD b)).isSome = true) : PutL l b l := by
  rw [PutL, if_neg (by rintro ⟨h1, h2⟩; rw [h2] at h; rcases h with h | h; exact h h1; cases h)]
theorem putL_new {l : List Ent} {b : List UInt8} {e : Ent} (h : putE l b = 0) (hp : at_ l (shaD b) = none) (hk : e.k = shaD b) (hb : e.b = b) : PutL l b (l ++ [e]) := by
  rw [PutL, if_pos ⟨h, hp⟩]; exact ⟨e, rfl, hk, hb⟩
theorem putD_no {l : List Ent} {b : List UInt8} (h : putE l b ≠ 0) : putD l b = Dig.zero := if_neg h
theorem putD_ok {l : List Ent} {b : List UInt8} (h : putE l b = 0) : putD l b = shaD b := if_pos h

set_option maxHeartbeats 1000000 in
theorem stPut_any (g r : Nat) (l : List Ent) (u : Value) (b : List UInt8) (w : World) (hT : StoreAt w g r l) (hK : Mem w ⟨0, 0, none⟩ (wds keysL)) (h0 : 0 < g ∧ 0 < r) (hb : By w u b) (hbl : b ≠ [] → ∀ k, u.ownBlock = some k → k < w.heap.size ∧ k ≠ g ∧ k ≠ r) : Calls Tryd.prog 9 #[.pointer (some ⟨g, 0, none⟩), u] w (Ret fun v w' => v = .tuple #[digV (putD l b), .int .i64 (putE l b)] ∧ (∃ l', (PutL l b l' ∧ Fresh w l l') ∧ StoreAt w' g r l') ∧ Chg (fun k => k = g ∨ k = r) w w') := by
  have hB0 := hT.blk
  have hT0 := hT
  have hlow := hT.low
  have hne := hT.ne
  have htot := hT.size
  have hlt0 := hT.lt
  have hk0 : (0 : Nat) < w.heap.size := hK.lt (fun h => by cases h)
  obtain ⟨A, m, c, rfl⟩ := hb.lens
  have hbm := hb.len.1
  obtain ⟨id, hid, hzd, _⟩ := info_apiDigest
  refine calls_of_CWct 66 4 32 [5] [(0, .pointer (some ⟨g, 0, none⟩)), (1, .slice A m c)] Tryd.func9 rfl rfl rfl Tryd.underlying28 rfl (by kernel_rfl) (by simp) args2 ?_
  have hE : Chg (fun k => k = g ∨ k = r) w w := Chg.refl
  refine CW.seq fun K1 hK1 => ?_
  refine CW.region ?_   -- region 0
  refine WL.alloc (hid) (hzd) rfl (by decide) fun g4 w1 hx1 hg4 hB4 => ?_   -- t4 := alloc 28
  have hlt4 := hB4.lt; have hz1 := hx1.size
  have hM4 := hB4.mem; have hz1 := hx1.size; have hE := hE.thenExt hx1; have hT := hT.ext hx1; have hB0 := hB0.ext hx1; have hK := hK.ext hx1; have hb := hb.ext hx1
  refine WL.val (Y.assign rfl) (by decide) ?_   -- t5 := assign c(0:i64)
  refine WL.nil ?_
  refine hK1 _ _ ?_; try clear hK1 K1
  refine CW.seq fun K2 hK2 => ?_
  refine CW.seq fun K3 hK3 => ?_
  refine CW.region ?_   -- region 1
  refine WL.val (Y.move rfl) (by decide) ?_   -- t9 := move t0
  refine WL.call Tryd.func22 rfl rfl rfl (made_any g r l _ hT) (by simp) ?_; rintro v w2 ⟨rfl, hx2⟩; have hz2 := hx2.size; have hE := hE.thenExt hx2; have hT := hT.ext hx2; have hB0 := hB0.ext hx2; have hK := hK.ext hx2; have hb := hb.ext hx2; have hB4 := hB4.ext hx2   -- t10 := call F22(t9) : 23
  refine WL.val (Y.not rfl) (by decide) ?_   -- t11 := unOp not 4 t10
  refine WL.nil ?_
  refine hK3 _ _ ?_; try clear hK3 K3
  first | refine CW.condD rfl (fun ht4 => ?_) (fun ht4 => ?_) | refine CW.condND rfl (fun ht4 => ?_) (fun ht4 => ?_) | refine CW.condN rfl (fun ht4 => ?_) (fun ht4 => ?_) | refine CW.cond rfl (fun ht4 => ?_) (fun ht4 => ?_)
  · -- then
    refine CW.seq fun K5 hK5 => ?_
    refine CW.region ?_   -- region 2
    refine WL.val (Y.build0 (build_apiDigest _)) (by decide) ?_   -- t12 := build 28 []
    refine WL.store (g := g4) (pre := []) (old := digC Dig.zero) (post := []) (new := digC Dig.zero) rfl rfl rfl rfl (sz_apiDigest _) (by simpa using hB4) (by first | rfl | (simp [digC_length, opC_length]; done) | (simp only [digC_length, opC_length]; omega)) (one_digC) (fun w3 hc3 hB3_ => ?_)   -- _ := store 28 t4 t12
    have hz3 := hc3.size; have hE := hE.stepO hc3 (fun k h => (by show (k = g ∨ k = r) ∨ _; omega)); have hT := hT.chg hc3 (fun h => by omega) (fun h => by omega) (fun e he k hk h => by have := hlow e he k hk; omega); have hB0 := hB0.chg hc3 (fun h => by omega); have hK := hK.chg hc3 (fun h => by change 0 = _ at h; omega); have hb := hb.chg hc3 (fun h0 k hk h => by have := hbl h0 k hk; omega)
    skip
    refine WL.val (Y.assign rfl) (by decide) ?_   -- t5 := assign c(2:i64)
    refine WL.nil ?_
    refine hK5 _ _ ?_; try clear hK5 K5
    refine CW.ret ?_
    exact absurd (show true = false by assumption) (by decide)
  -- else
  refine CW.skip ?_
  refine hK2 _ _ ?_; try clear hK2 K2
  refine CW.seq fun K6 hK6 => ?_
  refine CW.seq fun K7 hK7 => ?_
  refine CW.region ?_   -- region 3
  refine WL.val (Y.move rfl) (by decide) ?_   -- t13 := move t1
  refine WL.val (Y.len_slice Tryd.underlying26 rfl) (by decide) ?_   -- t14 := call len(t13) : 26
  refine WL.val (Y.gtr rfl rfl) (by decide) ?_   -- t15 := binOp gtr 3 t14 c(131072:i64) 3
  refine WL.nil ?_
  refine hK7 _ _ ?_; try clear hK7 K7
  first | refine CW.condD rfl (fun ht8 => ?_) (fun ht8 => ?_) | refine CW.condND rfl (fun ht8 => ?_) (fun ht8 => ?_) | refine CW.condN rfl (fun ht8 => ?_) (fun ht8 => ?_) | refine CW.cond rfl (fun ht8 => ?_) (fun ht8 => ?_)
  · -- then
    refine CW.seq fun K9 hK9 => ?_
    refine CW.region ?_   -- region 4
    refine WL.val (Y.build0 (build_apiDigest _)) (by decide) ?_   -- t16 := build 28 []
    refine WL.store (g := g4) (pre := []) (old := digC Dig.zero) (post := []) (new := digC (Dig.zero)) rfl rfl rfl rfl (sz_apiDigest _) (by simpa using hB4) (by first | rfl | (simp [digC_length, opC_length]; done) | (simp only [digC_length, opC_length]; omega)) (one_digC) (fun w4 hc4 hB4_ => ?_)   -- _ := store 28 t4 t16
    have hz4 := hc4.size; have hE := hE.stepO hc4 (fun k h => (by show (k = g ∨ k = r) ∨ _; omega)); have hT := hT.chg hc4 (fun h => by omega) (fun h => by omega) (fun e he k hk h => by have := hlow e he k hk; omega); have hB0 := hB0.chg hc4 (fun h => by omega); have hK := hK.chg hc4 (fun h => by change 0 = _ at h; omega); have hb := hb.chg hc4 (fun h0 k hk h => by have := hbl h0 k hk; omega)
    have hB4 : Blk w4 g4 TDi (digC (Dig.zero)) := by simpa using hB4_
    refine WL.val (Y.assign rfl) (by decide) ?_   -- t5 := assign c(3:i64)
    refine WL.nil ?_
    refine hK9 _ _ ?_; try clear hK9 K9
    refine CW.ret ?_
    have he : putE l b = 3 := by rw [putE, if_pos (by omega)]
    exact ⟨_, _, _, rfl, hB4.mem, digC_length _, rfl, ⟨by rw [putD_no (by rw [he]; decide), he], ⟨l, ⟨putL_same (.inl (by rw [he]; decide)), Fresh.refl⟩, hT⟩, hE⟩⟩
  -- else
  refine CW.skip ?_
  refine hK6 _ _ ?_; try clear hK6 K6
  refine CW.seq fun K10 hK10 => ?_
  refine CW.region ?_   -- region 5
  refine WL.val (Y.move rfl) (by decide) ?_   -- t17 := move t1
  refine WL.call Tryd.func11 rfl rfl rfl (sum_any _ b _ hb (fun h0 k hk => by have := hbl h0 k hk; omega) hK (by omega)) (by simp) ?_; rintro v w5 ⟨rfl, hx5⟩; have hz5 := hx5.size; have hE := hE.thenExt hx5; have hT := hT.ext hx5; have hB0 := hB0.ext hx5; have hK := hK.ext hx5; have hb := hb.ext hx5; have hB4 := hB4.ext hx5   -- t18 := call F11(t17) : 26
  refine as_apiDigest rfl (by simp) (by decide) fun g6 w6 hx6 hg6 hB6 => ?_   -- alloc 28; store 28 t6 t18
  have hlt6 := hB6.lt; have hz6 := hx6.size
  have hM6 := hB6.mem; have hz6 := hx6.size; have hE := hE.thenExt hx6; have hT := hT.ext hx6; have hB0 := hB0.ext hx6; have hK := hK.ext hx6; have hb := hb.ext hx6; have hB4 := hB4.ext hx6
  refine WL.nil ?_
  refine hK10 _ _ ?_; try clear hK10 K10
  refine CW.seq fun K11 hK11 => ?_
  refine CW.quiet (fun wq => Ext w6 wq) (by kernel_rfl) (by kernel_rfl) Chg.drew ?_
  refine QL.val (fun wq hq => Y.move rfl) (by decide) ?_   -- t20 := move t0
  refine QL.val (fun wq hq => Y.nilCheck rfl) (by decide) ?_   -- t21 := nilCheck t20
  refine QL.val (fun wq hq => Y.fieldAddr fo_storeStore0 rfl) (by decide) ?_   -- t22 := fieldAddr 58 t21 0
  refine QL.val (fun wq hq => Y.load1 Tryd.underlying56 rfl (hB0.ext hq).mem.storeStore0 rfl) (by decide) ?_   -- t23 := load 56 t22
  refine QL.val (fun wq hq => Y.load Tryd.underlying28 rfl (hB6.ext hq).mem (sz_apiDigest _) rfl) (by decide) ?_   -- t24 := load 28 t6
  refine QL.val (fun wq hq => Y.lookupOk keyDig (fun _ => rfl) UM zero_bytes rfl rfl ((hT.ext hq).map.choose_spec.1)) (by decide) ?_   -- t25 := lookup 56 t23 t24 true
  refine QL.val (fun wq hq => Y.move rfl) (by decide) ?_   -- t19 := move t25
  refine QL.val (fun wq hq => Y.extract rfl rfl) (by decide) ?_   -- t26 := extract t19 0
  refine QL.val (fun wq hq => Y.extract rfl rfl) (by decide) ?_   -- t27 := extract t19 1
  refine QL.val (fun wq hq => Y.assign rfl) (by decide) ?_   -- t7 := assign t26
  refine QL.val (fun wq hq => Y.assign rfl) (by decide) ?_   -- t8 := assign t27
  refine QL.nil fun w7 hx7 => ?_
  have hz7 := hx7.size
  have hE := hE.thenExt hx7
  have hT := hT.ext hx7
  have hB0 := hB0.ext hx7
  have hK := hK.ext hx7
  have hb := hb.ext hx7
  have hB4 := hB4.ext hx7
  have hB6 := hB6.ext hx7
  refine hK11 _ _ ?_; try clear hK11 K11
  refine CW.seq fun K12 hK12 => ?_
  refine CW.block ?_   -- block 0
  refine CW.seq_testE 28 ((at_ l (shaD b)).isSome = true ∧ getB l (shaD b) ≠ b) ?_ ?_
  · refine CW.region ?_
    refine WL.val (Y.move rfl) (by decide) ?_   -- t29 := move t8
    refine WL.val (Y.move rfl) (by decide) ?_   -- t30 := move t29
    first | refine WL.casesD (d := 30) rfl (fun hg30 => ?_) (fun hg30 => ?_) | refine WL.casesND (d := 30) rfl (fun hg30 => ?_) (fun hg30 => ?_) | refine WL.cases (d := 30) rfl (fun hg30 => ?_) (fun hg30 => ?_)
    · -- t30 = T
      refine WL.gval rfl rfl (Y.move rfl) (by decide) ?_   -- t31 := move t7 [if 1=true]
      refine WL.gval rfl rfl (Y.move rfl) (by decide) ?_   -- t32 := move t1 [if 1=true]
      refine WL.gcall rfl rfl Tryd.func23 rfl rfl rfl (eqb_any _ _ _ _ _ (hT.look (shaD b)) hb) (by decide) ?_; rintro v w8 ⟨rfl, hx8⟩; have hz8 := hx8.size; have hE := hE.thenExt hx8; have hT := hT.ext hx8; have hB0 := hB0.ext hx8; have hK := hK.ext hx8; have hb := hb.ext hx8; have hB4 := hB4.ext hx8; have hB6 := hB6.ext hx8   -- t33 := call F23(t31, t32) : 26,26 [if 1=true]
      refine WL.gval rfl rfl (Y.not rfl) (by decide) ?_   -- t34 := unOp not 4 t33 [if 1=true]
      refine WL.val (Y.pick rfl rfl) (by decide) ?_   -- t35 := pick t30 t34 c(false)
      refine WL.val (Y.assign rfl) (by decide) ?_   -- t28 := assign t35
      refine WL.nil ⟨⟨_, rfl, ?_⟩, hx8, (by repeat (first | exact Fr.le.refl | refine Fr.le.push rfl ?_))⟩
      first | (simp only [*, Int.natCast_inj, Bool.not_eq_true', decide_eq_false_iff_not, decide_eq_true_eq, not_true_eq_false, not_false_eq_true, true_and, false_and, and_true, and_false, false_or, or_false, true_or, or_true, iff_true, true_iff, iff_false, false_iff]; done) | (simp_all; done) | (refine congrArg Value.bool (Bool.eq_iff_iff.2 ?_); simp_all; done) | (simp_all; omega)
    · -- t30 = F
      refine WL.goff rfl rfl (by decide) ?_   -- t31 := move t7 [if 1=true]
      refine WL.goff rfl rfl (by decide) ?_   -- t32 := move t1 [if 1=true]
      refine WL.goff rfl rfl (by decide) ?_   -- t33 := call F23(t31, t32) : 26,26 [if 1=true]
      refine WL.goff rfl rfl (by decide) ?_   -- t34 := unOp not 4 t33 [if 1=true]
      refine WL.val (Y.pick rfl rfl) (by decide) ?_   -- t35 := pick t30 t34 c(false)
      refine WL.val (Y.assign rfl) (by decide) ?_   -- t28 := assign t35
      refine WL.nil ⟨⟨_, rfl, ?_⟩, Chg.refl, (by repeat (first | exact Fr.le.refl | refine Fr.le.push rfl ?_))⟩
      first | (simp only [*, Int.natCast_inj, Bool.not_eq_true', decide_eq_false_iff_not, decide_eq_true_eq, not_true_eq_false, not_false_eq_true, true_and, false_and, and_true, and_false, false_or, or_false, true_or, or_true, iff_true, true_iff, iff_false, false_iff]; done) | (simp_all; done) | (refine congrArg Value.bool (Bool.eq_iff_iff.2 ?_); simp_all; done) | (simp_all; omega)
  intro w9 hx9; have hz9 := hx9.size; have hE := hE.thenExt hx9; have hT := hT.ext hx9; have hB0 := hB0.ext hx9; have hK := hK.ext hx9; have hb := hb.ext hx9; have hB4 := hB4.ext hx9; have hB6 := hB6.ext hx9
  first | refine CW.condD rfl (fun ht13 => ?_) (fun ht13 => ?_) | refine CW.condND rfl (fun ht13 => ?_) (fun ht13 => ?_) | refine CW.condN rfl (fun ht13 => ?_) (fun ht13 => ?_) | refine CW.cond rfl (fun ht13 => ?_) (fun ht13 => ?_)
  · -- then
    refine CW.seq fun K14 hK14 => ?_
    refine CW.region ?_   -- region 8
    refine WL.val (Y.build0 (build_apiDigest _)) (by decide) ?_   -- t36 := build 28 []
    refine WL.store (g := g4) (pre := []) (old := digC Dig.zero) (post := []) (new := digC (Dig.zero)) rfl rfl rfl rfl (sz_apiDigest _) (by simpa using hB4) (by first | rfl | (simp [digC_length, opC_length]; done) | (simp only [digC_length, opC_length]; omega)) (one_digC) (fun w10 hc10 hB10_ => ?_)   -- _ := store 28 t4 t36
    have hz10 := hc10.size; have hE := hE.stepO hc10 (fun k h => (by show (k = g ∨ k = r) ∨ _; omega)); have hT := hT.chg hc10 (fun h => by omega) (fun h => by omega) (fun e he k hk h => by have := hlow e he k hk; omega); have hB0 := hB0.chg hc10 (fun h => by omega); have hK := hK.chg hc10 (fun h => by change 0 = _ at h; omega); have hb := hb.chg hc10 (fun h0 k hk h => by have := hbl h0 k hk; omega); have hB6 := hB6.chg hc10 (fun h => by omega)
    have hB4 : Blk w10 g4 TDi (digC (Dig.zero)) := by simpa using hB10_
    refine WL.val (Y.assign rfl) (by decide) ?_   -- t5 := assign c(10:i64)
    refine WL.nil ?_
    refine hK14 _ _ ?_; try clear hK14 K14
    refine CW.ret ?_
    have he : putE l b = 10 := by rw [putE, if_neg (by omega), if_pos (And.left (by assumption)), if_neg (And.right (by assumption))]
    exact ⟨_, _, _, rfl, hB4.mem, digC_length _, rfl, ⟨by rw [putD_no (by rw [he]; decide), he], ⟨l, ⟨putL_same (.inl (by rw [he]; decide)), Fresh.refl⟩, hT⟩, hE⟩⟩
  -- else
  refine CW.seq fun K15 hK15 => ?_
  refine CW.region ?_   -- region 9
  refine WL.val (Y.move rfl) (by decide) ?_   -- t38 := move t8
  refine WL.val (Y.assign rfl) (by decide) ?_   -- t37 := assign t38
  refine WL.nil ?_
  refine hK15 _ _ ?_; try clear hK15 K15
  first | refine CW.condD rfl (fun ht16 => ?_) (fun ht16 => ?_) | refine CW.condND rfl (fun ht16 => ?_) (fun ht16 => ?_) | refine CW.condN rfl (fun ht16 => ?_) (fun ht16 => ?_) | refine CW.cond rfl (fun ht16 => ?_) (fun ht16 => ?_)
  · -- then
    refine CW.seq fun K17 hK17 => ?_
    refine CW.region ?_   -- region 10
    refine WL.val (Y.load Tryd.underlying28 rfl hB6.mem (sz_apiDigest _) rfl) (by decide) ?_   -- t39 := load 28 t6
    refine WL.store (g := g4) (pre := []) (old := digC Dig.zero) (post := []) (new := digC (shaD b)) rfl rfl rfl rfl (sz_apiDigest _) (by simpa using hB4) (by first | rfl | (simp [digC_length, opC_length]; done) | (simp only [digC_length, opC_length]; omega)) (one_digC) (fun w11 hc11 hB11_ => ?_)   -- _ := store 28 t4 t39
    have hz11 := hc11.size; have hE := hE.stepO hc11 (fun k h => (by show (k = g ∨ k = r) ∨ _; omega)); have hT := hT.chg hc11 (fun h => by omega) (fun h => by omega) (fun e he k hk h => by have := hlow e he k hk; omega); have hB0 := hB0.chg hc11 (fun h => by omega); have hK := hK.chg hc11 (fun h => by change 0 = _ at h; omega); have hb := hb.chg hc11 (fun h0 k hk h => by have := hbl h0 k hk; omega); have hB6 := hB6.chg hc11 (fun h => by omega)
    have hB4 : Blk w11 g4 TDi (digC (shaD b)) := by simpa using hB11_
    refine WL.val (Y.assign rfl) (by decide) ?_   -- t5 := assign c(0:i64)
    refine WL.nil ?_
    refine hK17 _ _ ?_; try clear hK17 K17
    refine CW.ret ?_
    have he : putE l b = 0 := by
      have hs : (at_ l (shaD b)).isSome = true := by assumption
      rw [putE, if_neg (by omega), if_pos hs, if_pos (Decidable.not_not.1 fun x => (by assumption : ¬ ((at_ l (shaD b)).isSome = true ∧ getB l (shaD b) ≠ b)) ⟨hs, x⟩)]
    exact ⟨_, _, _, rfl, hB4.mem, digC_length _, rfl, ⟨by rw [putD_ok he, he], ⟨l, ⟨putL_same (.inr (by assumption)), Fresh.refl⟩, hT⟩, hE⟩⟩
  -- else
  refine CW.seq fun K18 hK18 => ?_
  refine CW.region ?_   -- region 11
  refine WL.val (Y.move rfl) (by decide) ?_   -- t41 := move t0
  refine WL.val (Y.nilCheck rfl) (by decide) ?_   -- t42 := nilCheck t41
  refine WL.val (Y.fieldAddr fo_storeStore0 rfl) (by decide) ?_   -- t43 := fieldAddr 58 t42 0
  refine WL.val (Y.load1 Tryd.underlying56 rfl hB0.mem.storeStore0 rfl) (by decide) ?_   -- t44 := load 56 t43
  refine WL.val (Y.len_map Tryd.underlying56 rfl hT.map.choose_spec.1) (by decide) ?_   -- t45 := call len(t44) : 56
  refine WL.val (Y.geq rfl rfl) (by decide) ?_   -- t46 := binOp geq 3 t45 c(500:i64) 3
  refine WL.val (Y.assign rfl) (by decide) ?_   -- t40 := assign t46
  refine WL.nil ?_
  refine hK18 _ _ ?_; try clear hK18 K18
  first | refine CW.condD rfl (fun ht19 => ?_) (fun ht19 => ?_) | refine CW.condND rfl (fun ht19 => ?_) (fun ht19 => ?_) | refine CW.condN rfl (fun ht19 => ?_) (fun ht19 => ?_) | refine CW.cond rfl (fun ht19 => ?_) (fun ht19 => ?_)
  · -- then
    refine CW.seq fun K20 hK20 => ?_
    refine CW.region ?_   -- region 12
    refine WL.val (Y.build0 (build_apiDigest _)) (by decide) ?_   -- t47 := build 28 []
    refine WL.store (g := g4) (pre := []) (old := digC Dig.zero) (post := []) (new := digC (Dig.zero)) rfl rfl rfl rfl (sz_apiDigest _) (by simpa using hB4) (by first | rfl | (simp [digC_length, opC_length]; done) | (simp only [digC_length, opC_length]; omega)) (one_digC) (fun w12 hc12 hB12_ => ?_)   -- _ := store 28 t4 t47
    have hz12 := hc12.size; have hE := hE.stepO hc12 (fun k h => (by show (k = g ∨ k = r) ∨ _; omega)); have hT := hT.chg hc12 (fun h => by omega) (fun h => by omega) (fun e he k hk h => by have := hlow e he k hk; omega); have hB0 := hB0.chg hc12 (fun h => by omega); have hK := hK.chg hc12 (fun h => by change 0 = _ at h; omega); have hb := hb.chg hc12 (fun h0 k hk h => by have := hbl h0 k hk; omega); have hB6 := hB6.chg hc12 (fun h => by omega)
    have hB4 : Blk w12 g4 TDi (digC (Dig.zero)) := by simpa using hB12_
    refine WL.val (Y.assign rfl) (by decide) ?_   -- t5 := assign c(14:i64)
    refine WL.nil ?_
    refine hK20 _ _ ?_; try clear hK20 K20
    refine CW.ret ?_
    have he : putE l b = 14 := by rw [putE, if_neg (by omega), if_neg (by rw [show (mfind Ent.k (shaD b) l 0).isSome = false by assumption]; decide), if_pos (by omega)]
    exact ⟨_, _, _, rfl, hB4.mem, digC_length _, rfl, ⟨by rw [putD_no (by rw [he]; decide), he], ⟨l, ⟨putL_same (.inl (by rw [he]; decide)), Fresh.refl⟩, hT⟩, hE⟩⟩
  -- else
  refine CW.skip ?_
  refine hK12 _ _ ?_; try clear hK12 K12
  refine CW.seq fun K21 hK21 => ?_
  refine CW.held (fun wq => Chg (fun k => k = r) w9 wq) (by kernel_rfl) 9 rfl fun w13 hx13 => ?_
  have hS : Chg (fun k => k = r) w9 w13 := hx13.chg
  obtain ⟨cl, hMp, hcl⟩ := hT.map
  have hMp := hMp.ext hx13
  have hz13 := hx13.size
  have hno := at_none (l := l) (d := shaD b) (by assumption)
  have he : putE l b = 0 := by rw [putE, if_neg (by omega), if_neg (by rw [hno]; decide), if_neg (by omega)]
  refine RH.take 0 (fun _ _ _ _ h => h) (by kernel_rfl) hS rfl (by kernel_rfl) (by kernel_rfl) (fun wq hq => Y.move rfl) (by decide) ?_   -- t48 := move t0
  refine RH.take 1 (fun _ _ _ _ h => h) (by kernel_rfl) hS rfl (by kernel_rfl) (by kernel_rfl) (fun wq hq => Y.nilCheck rfl) (by decide) ?_   -- t49 := nilCheck t48
  refine RH.take 2 (fun _ _ _ _ h => h) (by kernel_rfl) hS rfl (by kernel_rfl) (by kernel_rfl) (fun wq hq => Y.fieldAddr fo_storeStore0 rfl) (by decide) ?_   -- t50 := fieldAddr 58 t49 0
  refine RH.take 3 (fun _ _ _ _ h => h) (by kernel_rfl) hS rfl (by kernel_rfl) (by kernel_rfl) (fun wq hq => Y.load1 Tryd.underlying56 rfl (hB0.chg hq (fun h => by omega)).mem.storeStore0 rfl) (by decide) ?_   -- t51 := load 56 t50
  refine RH.take 4 (fun _ _ _ _ h => h) (by kernel_rfl) hS rfl (by kernel_rfl) (by kernel_rfl) (fun wq hq => Y.load Tryd.underlying28 rfl (hB6.chg hq (fun h => by omega)).mem (sz_apiDigest _) rfl) (by decide) ?_   -- t52 := load 28 t6
  refine RH.take 6 (fun _ _ _ _ h => h) (by kernel_rfl) hS rfl (by kernel_rfl) (by kernel_rfl) (fun wq hq => Y.move rfl) (by decide) ?_   -- t54 := move t1
  refine RH.one 5 (by kernel_rfl) ?_
  refine RS.st rfl (St.buildSlice0 Tryd.underlying26 sz_uint8) (by decide) fun v53 w14 hR14 => ?_   -- buildSlice 26 0 []
  obtain ⟨g53, rfl, hg53, hO53, hx14⟩ := hR14
  have hS := hS.thenExt hx14
  have hMp := hMp.ext hx14
  have hz14 := hx14.size
  refine ⟨hS, ?_⟩
  refine RH.one 7 (by kernel_rfl) ?_
  refine RS.st rfl (St.app (xs := []) (ys := b) Tryd.underlying26 Tryd.underlying26 ai_u8 rfl rfl hO53 (Src.by (hb.chg hS (fun h0 k hk h => by have := hbl h0 k hk; omega))) (by simp only [List.length_nil]; omega)) (by decide) fun v55 w15 hR15 => ?_   -- call append(t53, t54) : 26,26
  have hfr : ∀ k, v55.ownBlock = some k → w9.heap.size ≤ k := by
    rcases hR15.2.2 with h | h
    · intro k hk; rw [h] at hk; simp [Value.ownBlock] at hk; omega
    · intro k hk; have := h k hk; omega
  have hO55 : Own w15 5 1 v55 (bytesC b) := by simpa using hR15.1
  have hMp := hMp.chg hR15.2.1 (fun h => by simp [Value.ownBlock] at h; omega)
  have hS := hS.stepO hR15.2.1 (fun k h => .inr (by simp [Value.ownBlock] at h; omega))
  have hz15 := hR15.2.1.size
  refine ⟨hS, ?_⟩
  refine RH.one 8 (by kernel_rfl) ?_
  refine RS.su rfl (Su.mapNew (b := (⟨shaD b, v55, cl, b⟩ : Ent)) keyDig (fun _ => rfl) UM rfl rfl rfl hMp hno rfl) fun w16 hR16 => ?_   -- mapUpdate 56 t51 t52 t55
  obtain ⟨hMp, hc16⟩ := hR16
  have hO55 := hO55.chg hc16 (fun k hk h => by have := hfr k hk; omega)
  have hS := hS.trans hc16 (fun _ _ h => h)
  have hz16 := hc16.size
  refine ⟨hS, ?_⟩
  refine RH.done (by kernel_rfl) ?_
  have hE := hE.stepO hS (fun k h => .inl (.inr h))
  have hzS := hS.size
  have hB0 := hB0.chg hS (fun h => by omega)
  have hB4 := hB4.chg hS (fun h => by omega)
  have hB6 := hB6.chg hS (fun h => by omega)
  refine hK21 _ _ ?_; try clear hK21 K21
  refine CW.seq fun K22 hK22 => ?_
  refine CW.region ?_   -- region 14
  refine WL.val (Y.move rfl) (by decide) ?_   -- t56 := move t0
  refine WL.val (Y.nilCheck rfl) (by decide) ?_   -- t57 := nilCheck t56
  refine WL.val (Y.fieldAddr fo_storeStore1 rfl) (by decide) ?_   -- t58 := fieldAddr 58 t57 1
  refine WL.val (Y.load1 Tryd.underlying3 rfl hB0.mem.storeStore1 rfl) (by decide) ?_   -- t59 := load 3 t58
  refine WL.val (Y.move rfl) (by decide) ?_   -- t60 := move t1
  refine WL.val (Y.len_slice Tryd.underlying26 rfl) (by decide) ?_   -- t61 := call len(t60) : 26
  refine WL.val (Y.add rfl rfl ⟨by omega, by omega⟩) (by decide) ?_   -- t62 := binOp add 3 t59 t61 3
  refine WL.val (Y.nilCheck rfl) (by decide) ?_   -- t63 := nilCheck t56
  refine WL.val (Y.fieldAddr fo_storeStore1 rfl) (by decide) ?_   -- t64 := fieldAddr 58 t63 1
  refine WL.store (g := g) (pre := [.map (some r)]) (old := [.int .i64 (total l : Int)]) (post := []) (new := [.int .i64 ((total l : Int) + (m : Int))]) rfl rfl rfl rfl (by kernel_rfl) hB0 (by first | rfl | (simp [digC_length, opC_length]; done) | (simp only [digC_length, opC_length]; omega)) (one1 rfl) (fun w17 hc17 hB17_ => ?_)   -- _ := store 3 t64 t62
  have hz17 := hc17.size; have hE := hE.stepO hc17 (fun k h => (by show (k = g ∨ k = r) ∨ _; omega)); have hB4 := hB4.chg hc17 (fun h => by omega); have hB6 := hB6.chg hc17 (fun h => by omega)
  have hB0 : Blk w17 g TS_ (storeC r (total (l ++ [(⟨shaD b, v55, cl, b⟩ : Ent)]))) := by
    have e : ((total l + b.length : Nat) : Int) = (total l : Int) + (m : Int) := by omega
    rw [total_app]
    show Blk _ _ _ [_, .int .i64 ((total l + b.length : Nat) : Int)]
    rw [e]; exact hB17_
  have hMp := hMp.chg hc17 (fun h => by omega)
  have hO55 := hO55.chg hc17 (fun k hk h => by have := hfr k hk; omega)
  refine WL.nil ?_
  refine hK22 _ _ ?_; try clear hK22 K22
  refine CW.seq fun K23 hK23 => ?_
  refine CW.region ?_   -- region 15
  refine WL.val (Y.load Tryd.underlying28 rfl hB6.mem (sz_apiDigest _) rfl) (by decide) ?_   -- t65 := load 28 t6
  refine WL.store (g := g4) (pre := []) (old := digC Dig.zero) (post := []) (new := digC (shaD b)) rfl rfl rfl rfl (sz_apiDigest _) (by simpa using hB4) (by first | rfl | (simp [digC_length, opC_length]; done) | (simp only [digC_length, opC_length]; omega)) (one_digC) (fun w18 hc18 hB18_ => ?_)   -- _ := store 28 t4 t65
  have hz18 := hc18.size; have hE := hE.stepO hc18 (fun k h => (by show (k = g ∨ k = r) ∨ _; omega)); have hB0 := hB0.chg hc18 (fun h => by omega); have hB6 := hB6.chg hc18 (fun h => by omega)
  have hB4 : Blk w18 g4 TDi (digC (shaD b)) := by simpa using hB18_
  have hMp := hMp.chg hc18 (fun h => by omega)
  have hlt55 := hO55.lt
  have hO55 := hO55.chg hc18 (fun k hk h => by have := hfr k hk; omega)
  refine WL.val (Y.assign rfl) (by decide) ?_   -- t5 := assign c(0:i64)
  refine WL.nil ?_
  refine hK23 _ _ ?_; try clear hK23 K23
  refine CW.ret ?_
  exact ⟨_, _, _, rfl, hB4.mem, digC_length _, rfl, ⟨by rw [putD_ok he, he], ⟨_, ⟨putL_new (e := ⟨shaD b, v55, cl, b⟩) he hno rfl rfl, Fresh.app (fun k hk => by have := hfr k hk; omega)⟩, hT0.push hE (fun k h => h) hB0 hMp hcl hO55.by (fun k hk => by have := hfr k hk; have := hlt55 k hk; have := hc18.size; omega) hno (by omega) (by show b.length ≤ 131072; omega)⟩, hE⟩⟩
theorem stDrop_any (g r : Nat) (l : List Ent) (d : Dig) (w : World) (hT : StoreAt w g r l) : Calls Tryd.prog 15 #[.pointer (some ⟨g, 0, none⟩), digV d] w (Ret fun v w' => v = .bool (at_ l d).isSome ∧ StoreAt w' g r (dropL l d) ∧ Chg (fun k => k = g ∨ k = r) w w') := by
  have hB0 := hT.blk
  have hT0 := hT
  have hlow := hT.low
  have hne := hT.ne
  have htot := hT.size
  have hlt0 := hT.lt
  refine calls_of_CW 28 [4] [(0, .pointer (some ⟨g, 0, none⟩)), (1, digV d)] Tryd.func15 rfl rfl rfl (by simp) args2 ?_
  have hE : Chg (fun k => k = g ∨ k = r) w w := Chg.refl
  refine CW.seq fun K1 hK1 => ?_
  refine CW.region ?_   -- region 0
  refine WL.box rfl rfl (by decide) fun g3 w1 hx1 hg3 hB3 => ?_   -- t3 := box 28 t1
  have hlt3 := hB3.lt; have hz1 := hx1.size
  have hM3 := hB3.mem; have hz1 := hx1.size; have hE := hE.thenExt hx1; have hT := hT.ext hx1; have hB0 := hB0.ext hx1
  refine WL.val (Y.assign rfl) (by decide) ?_   -- t4 := assign c(false)
  refine WL.nil ?_
  refine hK1 _ _ ?_; try clear hK1 K1
  refine CW.seq fun K2 hK2 => ?_
  refine CW.seq fun K3 hK3 => ?_
  refine CW.region ?_   -- region 1
  refine WL.val (Y.move rfl) (by decide) ?_   -- t5 := move t0
  refine WL.val (Y.load Tryd.underlying28 rfl hB3.mem (sz_apiDigest _) rfl) (by decide) ?_   -- t6 := load 28 t3
  refine WL.call Tryd.func13 rfl rfl rfl (stHas_any g r l d _ hT) (by simp) ?_; rintro v w2 ⟨rfl, hx2⟩; have hz2 := hx2.size; have hE := hE.thenExt hx2; have hT := hT.ext hx2; have hB0 := hB0.ext hx2; have hB3 := hB3.ext hx2   -- t7 := call F13(t5, t6) : 23,28
  refine WL.val (Y.not rfl) (by decide) ?_   -- t8 := unOp not 4 t7
  refine WL.nil ?_
  refine hK3 _ _ ?_; try clear hK3 K3
  first | refine CW.condD rfl (fun ht4 => ?_) (fun ht4 => ?_) | refine CW.condND rfl (fun ht4 => ?_) (fun ht4 => ?_) | refine CW.condN rfl (fun ht4 => ?_) (fun ht4 => ?_) | refine CW.cond rfl (fun ht4 => ?_) (fun ht4 => ?_)
  · -- then
    refine CW.seq fun K5 hK5 => ?_
    refine CW.region ?_   -- region 2
    refine WL.val (Y.assign rfl) (by decide) ?_   -- t4 := assign c(false)
    refine WL.nil ?_
    refine hK5 _ _ ?_; try clear hK5 K5
    refine CW.ret ⟨_, rfl, ?_⟩
    have hn := at_none (l := l) (d := d) (by assumption)
    exact ⟨by rw [hn]; rfl, by rw [dropL_same hn]; exact hT, hE⟩
  -- else
  refine CW.skip ?_
  refine hK2 _ _ ?_; try clear hK2 K2
  refine CW.seq fun K6 hK6 => ?_
  refine CW.held (fun wq => Chg (fun k => k = g) w2 wq) (by kernel_rfl) 15 rfl fun w3 hx3 => ?_
  have hS : Chg (fun k => k = g) w2 w3 := hx3.chg
  have hB0 := hB0.ext hx3
  have hz3 := hx3.size
  obtain ⟨⟨j, e⟩, hp⟩ : ∃ p, at_ l d = some p := Option.isSome_iff_exists.1 (by assumption)
  obtain ⟨_, hj, _⟩ := mfind_some hp
  rw [Nat.sub_zero] at hj
  have hel := List.mem_of_getElem? hj
  have hv := hT.vals _ hel
  have hsh := hT.short _ hel
  have hte := total_erase hj
  obtain ⟨Av, mv, cv, hev⟩ := hv.lens
  rw [hev] at hv
  have hvl := hv.len.1
  refine RH.take 0 (fun _ _ _ _ h => h) (by kernel_rfl) hS rfl (by kernel_rfl) (by kernel_rfl) (fun wq hq => Y.move rfl) (by decide) ?_   -- t9 := move t0
  refine RH.take 1 (fun _ _ _ _ h => h) (by kernel_rfl) hS rfl (by kernel_rfl) (by kernel_rfl) (fun wq hq => Y.nilCheck rfl) (by decide) ?_   -- t10 := nilCheck t9
  refine RH.take 2 (fun _ _ _ _ h => h) (by kernel_rfl) hS rfl (by kernel_rfl) (by kernel_rfl) (fun wq hq => Y.fieldAddr fo_storeStore1 rfl) (by decide) ?_   -- t11 := fieldAddr 58 t10 1
  refine RH.take 4 (fun _ _ _ _ h => h) (by kernel_rfl) hS rfl (by kernel_rfl) (by kernel_rfl) (fun wq hq => Y.move rfl) (by decide) ?_   -- t13 := move t0
  refine RH.take 5 (fun _ _ _ _ h => h) (by kernel_rfl) hS rfl (by kernel_rfl) (by kernel_rfl) (fun wq hq => Y.nilCheck rfl) (by decide) ?_   -- t14 := nilCheck t13
  refine RH.take 6 (fun _ _ _ _ h => h) (by kernel_rfl) hS rfl (by kernel_rfl) (by kernel_rfl) (fun wq hq => Y.fieldAddr fo_storeStore0 rfl) (by decide) ?_   -- t15 := fieldAddr 58 t14 0
  refine RH.take 8 (fun _ _ _ _ h => h) (by kernel_rfl) hS rfl (by kernel_rfl) (by kernel_rfl) (fun wq hq => Y.load Tryd.underlying28 rfl (hB3.chg hq (fun h => by omega)).mem (sz_apiDigest _) rfl) (by decide) ?_   -- t17 := load 28 t3
  refine RH.two 3 7 (by kernel_rfl) ?_ ?_
  · skip
    refine RS.val rfl (Y.load1 Tryd.underlying3 rfl hB0.mem.storeStore1 rfl) (by decide) ⟨hS, ?_⟩   -- t12 := load 3 t11
    refine RH.one 7 (by kernel_rfl) ?_
    refine RS.val rfl (Y.load1 Tryd.underlying56 rfl hB0.mem.storeStore0 rfl) (by decide) ⟨hS, ?_⟩   -- t16 := load 56 t15
    refine RH.take 9 (fun _ _ _ _ h => h) (by kernel_rfl) hS rfl (by kernel_rfl) (by kernel_rfl) (fun wq hq => Y.lookupAt keyDig (fun _ => rfl) UM rfl rfl ((hT.map.choose_spec.1).chg hq (fun h => by omega)) hp hev) (by decide) ?_   -- t18 := lookup 56 t16 t17 false
    refine RH.take 10 (fun _ _ _ _ h => h) (by kernel_rfl) hS rfl (by kernel_rfl) (by kernel_rfl) (fun wq hq => Y.len_slice Tryd.underlying26 rfl) (by decide) ?_   -- t19 := call len(t18) : 26
    refine RH.take 11 (fun _ _ _ _ h => h) (by kernel_rfl) hS rfl (by kernel_rfl) (by kernel_rfl) (fun wq hq => Y.sub rfl rfl ⟨by omega, by omega⟩) (by decide) ?_   -- t20 := binOp sub 3 t12 t19 3
    refine RH.take 12 (fun _ _ _ _ h => h) (by kernel_rfl) hS rfl (by kernel_rfl) (by kernel_rfl) (fun wq hq => Y.nilCheck rfl) (by decide) ?_   -- t21 := nilCheck t9
    refine RH.take 13 (fun _ _ _ _ h => h) (by kernel_rfl) hS rfl (by kernel_rfl) (by kernel_rfl) (fun wq hq => Y.fieldAddr fo_storeStore1 rfl) (by decide) ?_   -- t22 := fieldAddr 58 t21 1
    refine RH.one 14 (by kernel_rfl) ?_
    refine RS.store rfl (g := g) (pre := [.map (some r)]) (old := [.int .i64 (total l : Int)]) (post := []) (new := [.int .i64 ((total l : Int) - (mv : Int))]) rfl rfl rfl rfl (by kernel_rfl) hB0 rfl (one1 rfl) (fun w4 hc4 hB4_ => ?_)   -- store 3 t22 t20
    have hS := hS.trans hc4 (fun _ _ h => h)
    refine ⟨hS, ?_⟩
    refine RH.done (by kernel_rfl) ?_
    have hE := hE.stepO hS (fun k h => .inl (.inl h))
    have hzS := hS.size
    have hB3 := hB3.chg hS (fun h => by omega)
    obtain ⟨cl, hMp, hcl⟩ := hT.map
    have hMp := hMp.chg hS (fun h => by omega)
    have hB0 : Blk w4 g TS_ (storeC r (total (l.eraseIdx j))) := by
      have e1 : ((total (l.eraseIdx j) : Nat) : Int) = (total l : Int) - (mv : Int) := by omega
      show Blk _ _ _ [_, .int .i64 ((total (l.eraseIdx j) : Nat) : Int)]
      rw [e1]; exact hB4_
    refine hK6 _ _ ?_; try clear hK6 K6
    refine CW.seq fun K7 hK7 => ?_
    refine CW.held (fun wq => Chg (fun k => k = r) w4 wq) (by kernel_rfl) 6 rfl fun w5 hx5 => ?_
    have hS : Chg (fun k => k = r) w4 w5 := hx5.chg
    have hMp := hMp.ext hx5
    have hz5 := hx5.size
    refine RH.take 0 (fun _ _ _ _ h => h) (by kernel_rfl) hS rfl (by kernel_rfl) (by kernel_rfl) (fun wq hq => Y.move rfl) (by decide) ?_   -- t23 := move t0
    refine RH.take 1 (fun _ _ _ _ h => h) (by kernel_rfl) hS rfl (by kernel_rfl) (by kernel_rfl) (fun wq hq => Y.nilCheck rfl) (by decide) ?_   -- t24 := nilCheck t23
    refine RH.take 2 (fun _ _ _ _ h => h) (by kernel_rfl) hS rfl (by kernel_rfl) (by kernel_rfl) (fun wq hq => Y.fieldAddr fo_storeStore0 rfl) (by decide) ?_   -- t25 := fieldAddr 58 t24 0
    refine RH.take 3 (fun _ _ _ _ h => h) (by kernel_rfl) hS rfl (by kernel_rfl) (by kernel_rfl) (fun wq hq => Y.load1 Tryd.underlying56 rfl (hB0.chg hq (fun h => by omega)).mem.storeStore0 rfl) (by decide) ?_   -- t26 := load 56 t25
    refine RH.take 4 (fun _ _ _ _ h => h) (by kernel_rfl) hS rfl (by kernel_rfl) (by kernel_rfl) (fun wq hq => Y.load Tryd.underlying28 rfl (hB3.chg hq (fun h => by omega)).mem (sz_apiDigest _) rfl) (by decide) ?_   -- t27 := load 28 t3
    refine RH.one 5 (by kernel_rfl) ?_
    refine RS.su rfl (Su.mapDelete keyDig (fun _ => rfl) UM rfl rfl hMp hp) fun w6 hR6 => ?_   -- call delete(t26, t27) : 56,28
    obtain ⟨hMp, hc6⟩ := hR6
    have hS := hS.trans hc6 (fun _ _ h => h)
    refine ⟨hS, ?_⟩
    refine RH.done (by kernel_rfl) ?_
    have hE := hE.stepO hS (fun k h => .inl (.inr h))
    have hB0 := hB0.chg hS (fun h => by omega)
    refine hK7 _ _ ?_; try clear hK7 K7
    refine CW.seq fun K8 hK8 => ?_
    refine CW.region ?_   -- region 5
    refine WL.val (Y.assign rfl) (by decide) ?_   -- t4 := assign c(true)
    refine WL.nil ?_
    refine hK8 _ _ ?_; try clear hK8 K8
    refine CW.ret ⟨_, rfl, ?_⟩
    exact ⟨by rw [hp]; rfl, by simp only [dropL, hp]; exact hT0.erase hE (fun k h => h) hB0 hMp hcl, hE⟩
  · skip
    refine RS.val rfl (Y.load1 Tryd.underlying56 rfl hB0.mem.storeStore0 rfl) (by decide) ⟨hS, ?_⟩   -- t16 := load 56 t15
    refine RH.take 9 (fun _ _ _ _ h => h) (by kernel_rfl) hS rfl (by kernel_rfl) (by kernel_rfl) (fun wq hq => Y.lookupAt keyDig (fun _ => rfl) UM rfl rfl ((hT.map.choose_spec.1).chg hq (fun h => by omega)) hp hev) (by decide) ?_   -- t18 := lookup 56 t16 t17 false
    refine RH.take 10 (fun _ _ _ _ h => h) (by kernel_rfl) hS rfl (by kernel_rfl) (by kernel_rfl) (fun wq hq => Y.len_slice Tryd.underlying26 rfl) (by decide) ?_   -- t19 := call len(t18) : 26
    refine RH.one 3 (by kernel_rfl) ?_
    refine RS.val rfl (Y.load1 Tryd.underlying3 rfl hB0.mem.storeStore1 rfl) (by decide) ⟨hS, ?_⟩   -- t12 := load 3 t11
    refine RH.take 11 (fun _ _ _ _ h => h) (by kernel_rfl) hS rfl (by kernel_rfl) (by kernel_rfl) (fun wq hq => Y.sub rfl rfl ⟨by omega, by omega⟩) (by decide) ?_   -- t20 := binOp sub 3 t12 t19 3
    refine RH.take 12 (fun _ _ _ _ h => h) (by kernel_rfl) hS rfl (by kernel_rfl) (by kernel_rfl) (fun wq hq => Y.nilCheck rfl) (by decide) ?_   -- t21 := nilCheck t9
    refine RH.take 13 (fun _ _ _ _ h => h) (by kernel_rfl) hS rfl (by kernel_rfl) (by kernel_rfl) (fun wq hq => Y.fieldAddr fo_storeStore1 rfl) (by decide) ?_   -- t22 := fieldAddr 58 t21 1
    refine RH.one 14 (by kernel_rfl) ?_
    refine RS.store rfl (g := g) (pre := [.map (some r)]) (old := [.int .i64 (total l : Int)]) (post := []) (new := [.int .i64 ((total l : Int) - (mv : Int))]) rfl rfl rfl rfl (by kernel_rfl) hB0 rfl (one1 rfl) (fun w7 hc7 hB7_ => ?_)   -- store 3 t22 t20
    have hS := hS.trans hc7 (fun _ _ h => h)
    refine ⟨hS, ?_⟩
    refine RH.done (by kernel_rfl) ?_
    have hE := hE.stepO hS (fun k h => .inl (.inl h))
    have hzS := hS.size
    have hB3 := hB3.chg hS (fun h => by omega)
    obtain ⟨cl, hMp, hcl⟩ := hT.map
    have hMp := hMp.chg hS (fun h => by omega)
    have hB0 : Blk w7 g TS_ (storeC r (total (l.eraseIdx j))) := by
      have e1 : ((total (l.eraseIdx j) : Nat) : Int) = (total l : Int) - (mv : Int) := by omega
      show Blk _ _ _ [_, .int .i64 ((total (l.eraseIdx j) : Nat) : Int)]
      rw [e1]; exact hB7_
    refine hK6 _ _ ?_; try clear hK6 K6
    refine CW.seq fun K9 hK9 => ?_
    refine CW.held (fun wq => Chg (fun k => k = r) w7 wq) (by kernel_rfl) 6 rfl fun w8 hx8 => ?_
    have hS : Chg (fun k => k = r) w7 w8 := hx8.chg
    have hMp := hMp.ext hx8
    have hz8 := hx8.size
    refine RH.take 0 (fun _ _ _ _ h => h) (by kernel_rfl) hS rfl (by kernel_rfl) (by kernel_rfl) (fun wq hq => Y.move rfl) (by decide) ?_   -- t23 := move t0
    refine RH.take 1 (fun _ _ _ _ h => h) (by kernel_rfl) hS rfl (by kernel_rfl) (by kernel_rfl) (fun wq hq => Y.nilCheck rfl) (by decide) ?_   -- t24 := nilCheck t23
    refine RH.take 2 (fun _ _ _ _ h => h) (by kernel_rfl) hS rfl (by kernel_rfl) (by kernel_rfl) (fun wq hq => Y.fieldAddr fo_storeStore0 rfl) (by decide) ?_   -- t25 := fieldAddr 58 t24 0
    refine RH.take 3 (fun _ _ _ _ h => h) (by kernel_rfl) hS rfl (by kernel_rfl) (by kernel_rfl) (fun wq hq => Y.load1 Tryd.underlying56 rfl (hB0.chg hq (fun h => by omega)).mem.storeStore0 rfl) (by decide) ?_   -- t26 := load 56 t25
    refine RH.take 4 (fun _ _ _ _ h => h) (by kernel_rfl) hS rfl (by kernel_rfl) (by kernel_rfl) (fun wq hq => Y.load Tryd.underlying28 rfl (hB3.chg hq (fun h => by omega)).mem (sz_apiDigest _) rfl) (by decide) ?_   -- t27 := load 28 t3
    refine RH.one 5 (by kernel_rfl) ?_
    refine RS.su rfl (Su.mapDelete keyDig (fun _ => rfl) UM rfl rfl hMp hp) fun w9 hR9 => ?_   -- call delete(t26, t27) : 56,28
    obtain ⟨hMp, hc9⟩ := hR9
    have hS := hS.trans hc9 (fun _ _ h => h)
    refine ⟨hS, ?_⟩
    refine RH.done (by kernel_rfl) ?_
    have hE := hE.stepO hS (fun k h => .inl (.inr h))
    have hB0 := hB0.chg hS (fun h => by omega)
    refine hK9 _ _ ?_; try clear hK9 K9
    refine CW.seq fun K10 hK10 => ?_
    refine CW.region ?_   -- region 5
    refine WL.val (Y.assign rfl) (by decide) ?_   -- t4 := assign c(true)
    refine WL.nil ?_
    refine hK10 _ _ ?_; try clear hK10 K10
    refine CW.ret ⟨_, rfl, ?_⟩
    exact ⟨by rw [hp]; rfl, by simp only [dropL, hp]; exact hT0.erase hE (fun k h => h) hB0 hMp hcl, hE⟩
end Go.Proofs.YtkbmlnkoejlgmaaDoor
