/- Several texts as one: Pr, Pc, Po, Pj. -/
import Derived.Test.YtoncdfpohdchgaaDoorP1
import Derived.Test.YtoncdfpohdchgaaDoorM1
import Derived.Test.YtoncdfpohdchgaaDoorRd
import Derived.Test.YtoncdfpohdchgaaDoorP2
import Derived.Test.YtoncdfpohdchgaaDoorDf
import Derived.Test.YtoncdfpohdchgaaDoorX2
import Derived.WideLaws
set_option linter.unusedSimpArgs false
set_option linter.unusedVariables false
/- The plain law of a pack that is read. No condition; no program run. -/
namespace Go.Pl
open Go.Fw
/-- Is a digest behind those that were read? -/
def behind (ids : List Dig) (d : Dig) : Bool := match ids.getLast? with
  | none => true
  | some x => lessB x d
/-- An object that stands there, behind others: its digest, its bytes, its depth. -/
def robj (b : List UInt8) (ids : List Dig) (ahead : List UInt8) (depth at_ : Nat) : Except Int ((Dig × List UInt8 × Nat) × Nat) := match gdig b at_ with
  | .error e => .error e
  | .ok (d, a1) => if behind ids d = false then .error 7 else match gnum b a1 with
    | .error e => .error e
    | .ok (k, a2) => if 1 < k ∨ (k = 1 ∧ ids = []) then .error 7 else if 4 < (depth + 1) * k then .error 13 else match gtext b a2 with
      | .error e => .error e
      | .ok (s, a3) => if (if k = 1 then (apB ahead s).2 else 0) ≠ 0 then .error (apB ahead s).2 else
        if shaD (if k = 1 then (apB ahead s).1 else s) ≠ d then .error 10 else .ok ((d, (if k = 1 then (apB ahead s).1 else s), (depth + 1) * k), a3)
/-- So many objects. -/
def robjs (b : List UInt8) : Nat → List Dig → List (List UInt8) → List UInt8 → Nat → Nat → Except Int (List (List UInt8) × Nat)
  | 0, _, l, _, _, at_ => .ok (l, at_)
  | n + 1, ids, l, ahead, depth, at_ => match robj b ids ahead depth at_ with
    | .error e => .error e
    | .ok ((d, s, dp), a) => robjs b n (ids ++ [d]) (l ++ [s]) s dp a
/-- A pack's body, behind its first three bytes. -/
def rbody (b : List UInt8) : Except Int (List (List UInt8)) := match gnum b 3 with
  | .error e => .error e
  | .ok (n, a) => if 500 < n then .error 4 else match robjs b n [] [] [] 0 a with
    | .error e => .error e
    | .ok (l, at_) => if at_ ≠ b.length then .error 7 else .ok l
/-- What Read answers. -/
def rdP (p : List UInt8) : Except Int (List (List UInt8)) := if 1048576 < p.length then .error 3 else if p.length < 3 ∨ p.take 3 ≠ [82, 80, 49] then .error 7 else
  if p.length < 35 then .error 8 else if (shaD (p.take (p.length - 32))).1 ≠ p.drop (p.length - 32) then .error 10 else rbody (p.take (p.length - 32))
section
variable {b ahead : List UInt8} {ids : List Dig} {depth at_ a1 a2 a3 k : Nat} {e : Int} {d : Dig} {s : List UInt8}
theorem robj_e1 (h : gdig b at_ = .error e) : robj b ids ahead depth at_ = .error e := by rw [robj, h]
theorem robj_e2 (h : gdig b at_ = .ok (d, a1)) (hb : behind ids d = false) : robj b ids ahead depth at_ = .error 7 := by rw [robj, h]; simp only []; rw [if_pos hb]
variable (h : gdig b at_ = .ok (d, a1)) (hb : behind ids d = true)
include h hb
theorem robj_1 : robj b ids ahead depth at_ = match gnum b a1 with
    | .error e => .error e
    | .ok (k, a2) => if 1 < k ∨ (k = 1 ∧ ids = []) then .error 7 else if 4 < (depth + 1) * k then .error 13 else match gtext b a2 with
      | .error e => .error e
      | .ok (s, a3) => if (if k = 1 then (apB ahead s).2 else 0) ≠ 0 then .error (apB ahead s).2 else
        if shaD (if k = 1 then (apB ahead s).1 else s) ≠ d then .error 10 else .ok ((d, (if k = 1 then (apB ahead s).1 else s), (depth + 1) * k), a3) := by
  rw [robj, h]; simp only []; rw [if_neg (by rw [hb]; decide)]
theorem robj_e3 (hn : gnum b a1 = .error e) : robj b ids ahead depth at_ = .error e := by rw [robj_1 h hb, hn]
variable (hn : gnum b a1 = .ok (k, a2))
include hn
theorem robj_e4 (hk : 1 < k ∨ (k = 1 ∧ ids = [])) : robj b ids ahead depth at_ = .error 7 := by rw [robj_1 h hb, hn]; simp only []; rw [if_pos hk]
variable (hk : ¬ (1 < k ∨ (k = 1 ∧ ids = [])))
include hk
theorem robj_e5 (hd : 4 < (depth + 1) * k) : robj b ids ahead depth at_ = .error 13 := by rw [robj_1 h hb, hn]; simp only []; rw [if_neg hk, if_pos hd]
variable (hd : ¬ 4 < (depth + 1) * k)
include hd
theorem robj_e6 (ht : gtext b a2 = .error e) : robj b ids ahead depth at_ = .error e := by rw [robj_1 h hb, hn]; simp only []; rw [if_neg hk, if_neg hd, ht]
variable (ht : gtext b a2 = .ok (s, a3))
include ht
theorem robj_e7 (h1 : k = 1) (ha : (apB ahead s).2 ≠ 0) : robj b ids ahead depth at_ = .error (apB ahead s).2 := by rw [robj_1 h hb, hn]; simp only []; rw [if_neg hk, if_neg hd, ht]; simp only []; rw [if_pos h1, if_pos ha]
theorem robj_last {t : List UInt8} (hr : (k = 1 ∧ apB ahead s = (t, 0)) ∨ (k ≠ 1 ∧ t = s)) : robj b ids ahead depth at_ = if shaD t ≠ d then .error 10 else .ok ((d, t, (depth + 1) * k), a3) := by
  rw [robj_1 h hb, hn]; simp only []; rw [if_neg hk, if_neg hd, ht]; simp only []
  rcases hr with ⟨h1, h2⟩ | ⟨h1, rfl⟩
  · rw [if_pos h1, if_pos h1, h2, if_neg (by simp)]
  · rw [if_neg h1, if_neg h1, if_neg (by simp)]
end
end Go.Pl

/- Packs are read: the reader's methods, walked. No condition. -/
namespace Go.Fw
section
variable {w : World} {a : Addr} {u v : Value} (h : Mem w a [u, v])
include h
theorem Mem.packreader0 : w.cell? (a.add 0) = some u := h.cell 0 rfl
theorem Mem.packreader1 : w.cell? (a.add 1) = some v := h.cell 1 rfl
end
end Go.Fw
namespace Go.Proofs.YtoncdfpohdchgaaDoor
open Go.RowKit Go.Fw Go.Pl Go.Sort
abbrev TPk : TypeId := 62
theorem fo_packreader0 : FieldOff Tryd.prog TPk 0 0 := ⟨_, _, 1, Tryd.underlying62, rfl, by kernel_rfl, by decide, rfl⟩
theorem fo_packreader1 : FieldOff Tryd.prog TPk 1 1 := ⟨_, _, 1, Tryd.underlying62, rfl, by kernel_rfl, by decide, rfl⟩
abbrev RobS (b : List UInt8) (ids : List Dig) (ahead : List UInt8) (depth at_ g : Nat) (w : World) (ch : List PanicEntry) (w' : World) : Prop := ∃ e, robj b ids ahead depth at_ = .error e ∧ ch = pan e ∧ Chg (· = g) w w'
theorem gdig_at {b : List UInt8} {at_ a : Nat} {d : Dig} (h : gdig b at_ = .ok (d, a)) : a = at_ + 32 ∧ a ≤ b.length := by
  unfold gdig at h
  split at h
  · rename_i hl; injection h with h; injection h with h1 h2; omega
  · cases h
theorem behind_last {ids : List Dig} {d x : Dig} (h : ids[ids.length - 1]? = some x) : behind ids d = lessB x d := by
  rw [behind, List.getLast?_eq_getElem?, h]

theorem prefuse_any (b : Bool) (e : Int) (w : World) : Calls Tryd.prog 28 #[.bool b, .int .i64 e] w (RetOr (fun v w' => b = false ∧ v = .tuple #[] ∧ Ext w w') (fun ch w' => b = true ∧ ch = pan e ∧ Ext w w')) := by
  refine calls_of_CW_or 7 [] [(0, .bool b), (1, .int .i64 e)] Tryd.func28 rfl rfl rfl (by simp) args2 ?_
  refine CW.seq fun K1 hK1 => ?_
  refine CW.region ?_   -- region 0
  refine WL.val (Y.move rfl) (by decide) ?_   -- t4 := move t0
  refine WL.nil ?_
  refine hK1 _ _ ?_; try clear hK1 K1
  first | refine CW.condD rfl (fun ht2 => ?_) (fun ht2 => ?_) | refine CW.condND rfl (fun ht2 => ?_) (fun ht2 => ?_) | refine CW.condN rfl (fun ht2 => ?_) (fun ht2 => ?_) | refine CW.cond rfl (fun ht2 => ?_) (fun ht2 => ?_)
  · -- then
    refine CW.region ?_   -- region 1
    refine WL.val (Y.move rfl) (by decide) ?_   -- t5 := move t1
    refine WL.val (Y.makeIface (by kernel_rfl) rfl) (by decide) ?_   -- t6 := makeInterface 23 t5
    refine WL.panicI rfl ?_   -- _ := panic t6
    exact ⟨by assumption, rfl, Chg.refl⟩
  -- else
  refine CW.skip ?_
  refine ⟨_, rfl, ?_⟩
  exact ⟨by assumption, rfl, Chg.refl⟩
theorem pknum_any (g : Nat) (bv : Value) (bs_ : List UInt8) (at_ : Nat) (w : World) (hB : Blk w g TPk [bv, .int .i64 (at_ : Int)]) (hb : By w bv bs_) (hbg : bs_ ≠ [] → ∀ k, bv.ownBlock = some k → k ≠ g) (hat : at_ ≤ bs_.length) : Calls Tryd.prog 29 #[.pointer (some ⟨g, 0, none⟩)] w (RetOr (RdR (gnum bs_ at_) (fun n => .int .i64 (n : Int)) g TPk bv [] w) (RdS (gnum bs_ at_) g w)) := by
  have hM0 := hB.mem
  refine calls_of_CW_or 28 [2] [(0, .pointer (some ⟨g, 0, none⟩))] Tryd.func29 rfl rfl rfl (by simp) args1 ?_
  refine CW.seq fun K1 hK1 => ?_
  refine CW.region ?_   -- region 0
  refine WL.val (Y.assign rfl) (by decide) ?_   -- t2 := assign c(0:i64)
  refine WL.nil ?_
  refine hK1 _ _ ?_; try clear hK1 K1
  refine CW.seq fun K2 hK2 => ?_
  refine CW.quiet (fun wq => Ext w wq) (by kernel_rfl) (by kernel_rfl) Chg.drew ?_
  refine QL.val (fun wq hq => Y.move rfl) (by decide) ?_   -- t7 := move t0
  refine QL.val (fun wq hq => Y.nilCheck rfl) (by decide) ?_   -- t8 := nilCheck t7
  refine QL.val (fun wq hq => Y.fieldAddr fo_packreader0 rfl) (by decide) ?_   -- t9 := fieldAddr 62 t8 0
  refine QL.val (fun wq hq => Y.load1 Tryd.underlying33 rfl (hM0.ext hq).packreader0 rfl) (by decide) ?_   -- t10 := load 33 t9
  refine QL.val (fun wq hq => Y.move rfl) (by decide) ?_   -- t11 := move t0
  refine QL.val (fun wq hq => Y.nilCheck rfl) (by decide) ?_   -- t12 := nilCheck t11
  refine QL.val (fun wq hq => Y.fieldAddr fo_packreader1 rfl) (by decide) ?_   -- t13 := fieldAddr 62 t12 1
  refine QL.val (fun wq hq => Y.load1 Tryd.underlying3 rfl (hM0.ext hq).packreader1 rfl) (by decide) ?_   -- t14 := load 3 t13
  refine QL.call Tryd.func47 rfl rfl rfl (fun wq hq => ret_ext (getNum_t _ bs_ at_ _ (hb.ext hq) hat) hq) (by simp) ?_   -- t15 := call F47(t10, t14) : 33,3
  refine QL.val (fun wq hq => Y.move rfl) (by decide) ?_   -- t6 := move t15
  refine QL.val (fun wq hq => Y.extract rfl rfl) (by decide) ?_   -- t16 := extract t6 0
  refine QL.val (fun wq hq => Y.extract rfl rfl) (by decide) ?_   -- t17 := extract t6 1
  refine QL.val (fun wq hq => Y.extract rfl rfl) (by decide) ?_   -- t18 := extract t6 2
  refine QL.val (fun wq hq => Y.assign rfl) (by decide) ?_   -- t3 := assign t16
  refine QL.val (fun wq hq => Y.assign rfl) (by decide) ?_   -- t4 := assign t17
  refine QL.val (fun wq hq => Y.assign rfl) (by decide) ?_   -- t5 := assign t18
  refine QL.nil fun w1 hx1 => ?_
  have hM0 := hM0.ext hx1
  have hB := hB.ext hx1
  have hb := hb.ext hx1
  refine hK2 _ _ ?_; try clear hK2 K2
  refine CW.seq fun K3 hK3 => ?_
  refine CW.region ?_   -- region 2
  refine WL.val (Y.move rfl) (by decide) ?_   -- t19 := move t5
  refine WL.val (Y.neq rfl rfl) (by decide) ?_   -- t20 := binOp neq 23 t19 c(0:i64) 23
  refine WL.val (Y.move rfl) (by decide) ?_   -- t21 := move t5
  refine WL.callOr Tryd.func28 rfl rfl rfl (prefuse_any _ _ _) (by simp) (fun ch w2 hP2 => ?_) ?_   -- t22 := call F28(t20, t21) : 4,23
  · skip
    obtain ⟨h1, rfl, hx⟩ := hP2
    exact (⟨_, (gE_ne (of_decide_eq_true h1)).1, rfl, Ext.chg (Chg.thenExt hx1 hx)⟩ : RdS (gnum bs_ at_) g w _ _)
  rintro v22 w2 hR2
  obtain ⟨h1, rfl, hx2⟩ := hR2
  obtain ⟨n, nx, hg, hN, hX⟩ := gE_zero (Decidable.not_not.1 (of_decide_eq_false h1))
  rw [hN, hX]
  have hB := hB.ext hx2
  refine WL.nil ?_
  refine hK3 _ _ ?_; try clear hK3 K3
  refine CW.seq fun K4 hK4 => ?_
  refine CW.region ?_   -- region 3
  refine WL.val (Y.move rfl) (by decide) ?_   -- t23 := move t0
  refine WL.val (Y.move rfl) (by decide) ?_   -- t24 := move t4
  refine WL.val (Y.nilCheck rfl) (by decide) ?_   -- t25 := nilCheck t23
  refine WL.val (Y.fieldAddr fo_packreader1 rfl) (by decide) ?_   -- t26 := fieldAddr 62 t25 1
  refine WL.store (g := g) (pre := [bv]) (old := [.int .i64 (at_ : Int)]) (post := []) (new := [.int .i64 (nx : Int)]) rfl rfl rfl rfl (by kernel_rfl) hB (by first | rfl | (simp [digC_length, opC_length]; done) | (simp only [digC_length, opC_length]; omega)) (one1 rfl) (fun w3 hc3 hB3_ => ?_)   -- _ := store 3 t26 t24
  skip
  refine WL.nil ?_
  refine hK4 _ _ ?_; try clear hK4 K4
  refine CW.seq fun K5 hK5 => ?_
  refine CW.region ?_   -- region 4
  refine WL.val (Y.move rfl) (by decide) ?_   -- t27 := move t3
  refine WL.val (Y.assign rfl) (by decide) ?_   -- t2 := assign t27
  refine WL.nil ?_
  refine hK5 _ _ ?_; try clear hK5 K5
  refine CW.ret ⟨_, rfl, ?_⟩
  exact ⟨n, nx, hg, rfl, (Ext.chg (hx1.thenExt hx2)).trans hc3 (fun _ _ h => h), hB3_⟩
set_option maxRecDepth 20000 in
theorem pkdig_any (g : Nat) (bv : Value) (bs_ : List UInt8) (at_ : Nat) (w : World) (hB : Blk w g TPk [bv, .int .i64 (at_ : Int)]) (hb : By w bv bs_) (hbg : bs_ ≠ [] → ∀ k, bv.ownBlock = some k → k ≠ g) (hat : at_ ≤ bs_.length) : Calls Tryd.prog 48 #[.pointer (some ⟨g, 0, none⟩)] w (RetOr (RdR (gdig bs_ at_) digV g TPk bv [] w) (RdS (gdig bs_ at_) g w)) := by
  have hbl := hb.ltB
  have hgl := hB.lt
  obtain ⟨A, m, c, rfl⟩ := hb.lens
  obtain ⟨hl, hmc, hcm⟩ := hb.len
  unfold maxLen at hcm
  obtain ⟨id, hid, hzd, _⟩ := info_apiDigest
  refine calls_of_CWc_or 38 2 32 [(0, .pointer (some ⟨g, 0, none⟩))] Tryd.func48 rfl rfl rfl Tryd.underlying31 rfl (by kernel_rfl) (by simp) args1 ?_
  have hE : Chg (fun k => k = g) w w := Chg.refl
  refine CW.seq fun K1 hK1 => ?_
  refine CW.region ?_   -- region 0
  refine WL.alloc (hid) (hzd) rfl (by decide) fun g2 w1 hx1 hg2 hB2 => ?_   -- t2 := alloc 31
  have hlt2 := hB2.lt; have hz1 := hx1.size
  have hM2 := hB2.mem; have hz1 := hx1.size; have hE := hE.thenExt hx1; have hB := hB.ext hx1; have hb := hb.ext hx1
  refine WL.nil ?_
  refine hK1 _ _ ?_; try clear hK1 K1
  refine CW.seq fun K2 hK2 => ?_
  refine CW.held (fun wq => Ext w1 wq) (by kernel_rfl) 12 rfl fun w2 hS => ?_
  refine RH.take 0 (fun _ _ _ _ h => h) (by kernel_rfl) hS rfl (by kernel_rfl) (by kernel_rfl) (fun wq hq => Y.move rfl) (by decide) ?_   -- t3 := move t0
  refine RH.take 1 (fun _ _ _ _ h => h) (by kernel_rfl) hS rfl (by kernel_rfl) (by kernel_rfl) (fun wq hq => Y.nilCheck rfl) (by decide) ?_   -- t4 := nilCheck t3
  refine RH.take 2 (fun _ _ _ _ h => h) (by kernel_rfl) hS rfl (by kernel_rfl) (by kernel_rfl) (fun wq hq => Y.fieldAddr fo_packreader0 rfl) (by decide) ?_   -- t5 := fieldAddr 62 t4 0
  refine RH.take 3 (fun _ _ _ _ h => h) (by kernel_rfl) hS rfl (by kernel_rfl) (by kernel_rfl) (fun wq hq => Y.load1 Tryd.underlying33 rfl (hB.ext hq).mem.packreader0 rfl) (by decide) ?_   -- t6 := load 33 t5
  refine RH.take 4 (fun _ _ _ _ h => h) (by kernel_rfl) hS rfl (by kernel_rfl) (by kernel_rfl) (fun wq hq => Y.len_slice Tryd.underlying33 rfl) (by decide) ?_   -- t7 := call len(t6) : 33
  refine RH.take 5 (fun _ _ _ _ h => h) (by kernel_rfl) hS rfl (by kernel_rfl) (by kernel_rfl) (fun wq hq => Y.move rfl) (by decide) ?_   -- t8 := move t0
  refine RH.take 6 (fun _ _ _ _ h => h) (by kernel_rfl) hS rfl (by kernel_rfl) (by kernel_rfl) (fun wq hq => Y.nilCheck rfl) (by decide) ?_   -- t9 := nilCheck t8
  refine RH.take 7 (fun _ _ _ _ h => h) (by kernel_rfl) hS rfl (by kernel_rfl) (by kernel_rfl) (fun wq hq => Y.fieldAddr fo_packreader1 rfl) (by decide) ?_   -- t10 := fieldAddr 62 t9 1
  refine RH.take 8 (fun _ _ _ _ h => h) (by kernel_rfl) hS rfl (by kernel_rfl) (by kernel_rfl) (fun wq hq => Y.load1 Tryd.underlying3 rfl (hB.ext hq).mem.packreader1 rfl) (by decide) ?_   -- t11 := load 3 t10
  refine RH.take 9 (fun _ _ _ _ h => h) (by kernel_rfl) hS rfl (by kernel_rfl) (by kernel_rfl) (fun wq hq => Y.sub rfl rfl ⟨by omega, by omega⟩) (by decide) ?_   -- t12 := binOp sub 3 t7 t11 3
  refine RH.take 10 (fun _ _ _ _ h => h) (by kernel_rfl) hS rfl (by kernel_rfl) (by kernel_rfl) (fun wq hq => Y.lss rfl rfl) (by decide) ?_   -- t13 := binOp lss 3 t12 c(32:i64) 3
  refine RH.one 11 (by kernel_rfl) ?_
  refine RS.callOr rfl Tryd.func28 rfl rfl rfl (prefuse_any _ _ _) (by simp) (fun ch w3 hP3 => ?_) ?_   -- call F28(t13, c(8:i64)) : 4,23
  · skip
    obtain ⟨h1, rfl, hx⟩ := hP3
    have := of_decide_eq_true h1
    exact (⟨8, by rw [gdig, dif_neg (by omega)], rfl, (hE.thenExt hS).thenExt hx⟩ : RdS (gdig bs_ at_) g w _ _)
  rintro v14 w3 hR3
  obtain ⟨h1, rfl, hx3⟩ := hR3
  have hS := hS.thenExt hx3
  have hle := of_decide_eq_false h1
  refine ⟨hS, ?_⟩
  refine RH.done (by kernel_rfl) ?_
  have hx4 := hS; have hz4 := hx4.size; have hE := hE.thenExt hx4; have hB := hB.ext hx4; have hb := hb.ext hx4; have hB2 := hB2.ext hx4
  refine hK2 _ _ ?_; try clear hK2 K2
  refine CW.seq fun K3 hK3 => ?_
  refine CW.region ?_   -- region 2
  refine WL.val (Y.move rfl) (by decide) ?_   -- t15 := move t0
  refine WL.val (Y.nilCheck rfl) (by decide) ?_   -- t16 := nilCheck t15
  refine WL.val (Y.fieldAddr fo_packreader1 rfl) (by decide) ?_   -- t17 := fieldAddr 62 t16 1
  refine WL.val (Y.load1 Tryd.underlying3 rfl hB.mem.packreader1 rfl) (by decide) ?_   -- t18 := load 3 t17
  refine WL.val (Y.add rfl rfl ⟨by omega, by omega⟩) (by decide) ?_   -- t19 := binOp add 3 t18 c(32:i64) 3
  refine WL.val (Y.nilCheck rfl) (by decide) ?_   -- t20 := nilCheck t15
  refine WL.val (Y.fieldAddr fo_packreader1 rfl) (by decide) ?_   -- t21 := fieldAddr 62 t20 1
  refine WL.store (g := g) (pre := [.slice A m c]) (old := [.int .i64 (at_ : Int)]) (post := []) (new := [.int .i64 ((at_ : Int) + 32)]) rfl rfl rfl rfl (by kernel_rfl) (by simpa using hB) (by first | rfl | (simp [digC_length, opC_length]; done) | (simp only [digC_length, opC_length]; omega)) (one1 rfl) (fun w5 hc5 hB5_ => ?_)   -- _ := store 3 t21 t19
  have hz5 := hc5.size; have hE := hE.stepO hc5 (fun k h => (by show (k = g) ∨ _; omega)); have hb := hb.chg hc5 (fun h0 k hk h => by first | exact hbg h0 k hk h | (have := hbl h0 k hk; omega)); have hB2 := hB2.chg hc5 (fun h => by omega)
  have hB : Blk w5 g TPk [.slice A m c, .int .i64 ((at_ : Int) + 32)] := by simpa using hB5_
  obtain ⟨a0, rfl, hmb⟩ := hb.mem.1 (by omega)
  have hne : bs_ ≠ [] := by intro h; rw [h] at hl; simp at hl; omega
  have hlen : ((bs_.drop at_).take 32).length = 32 := by rw [List.length_take, List.length_drop]; omega
  obtain ⟨dd, hdd⟩ : ∃ dd : Dig, dd = ⟨(bs_.drop at_).take 32, hlen⟩ := ⟨_, rfl⟩
  have hgd : gdig bs_ at_ = .ok (dd, at_ + 32) := by rw [gdig, dif_pos (by omega), hdd]
  refine WL.nil ?_
  refine hK3 _ _ ?_; try clear hK3 K3
  refine CW.seq fun K4 hK4 => ?_
  refine CW.held (fun wq => Chg (fun k => k = g2) w5 wq) (by kernel_rfl) 17 rfl fun w6 hx6 => ?_
  have hS : Chg (fun k => k = g2) w5 w6 := hx6.chg
  refine RH.take 0 (fun _ _ _ _ h => h) (by kernel_rfl) hS rfl (by kernel_rfl) (by kernel_rfl) (fun wq hq => Y.move rfl) (by decide) ?_   -- t22 := move t0
  refine RH.take 1 (fun _ _ _ _ h => h) (by kernel_rfl) hS rfl (by kernel_rfl) (by kernel_rfl) (fun wq hq => Y.nilCheck rfl) (by decide) ?_   -- t23 := nilCheck t22
  refine RH.take 2 (fun _ _ _ _ h => h) (by kernel_rfl) hS rfl (by kernel_rfl) (by kernel_rfl) (fun wq hq => Y.fieldAddr fo_packreader0 rfl) (by decide) ?_   -- t24 := fieldAddr 62 t23 0
  refine RH.take 3 (fun _ _ _ _ h => h) (by kernel_rfl) hS rfl (by kernel_rfl) (by kernel_rfl) (fun wq hq => Y.load1 Tryd.underlying33 rfl (hB.chg hq (fun h => by omega)).mem.packreader0 rfl) (by decide) ?_   -- t25 := load 33 t24
  refine RH.take 4 (fun _ _ _ _ h => h) (by kernel_rfl) hS rfl (by kernel_rfl) (by kernel_rfl) (fun wq hq => Y.move rfl) (by decide) ?_   -- t26 := move t0
  refine RH.take 5 (fun _ _ _ _ h => h) (by kernel_rfl) hS rfl (by kernel_rfl) (by kernel_rfl) (fun wq hq => Y.nilCheck rfl) (by decide) ?_   -- t27 := nilCheck t26
  refine RH.take 6 (fun _ _ _ _ h => h) (by kernel_rfl) hS rfl (by kernel_rfl) (by kernel_rfl) (fun wq hq => Y.fieldAddr fo_packreader1 rfl) (by decide) ?_   -- t28 := fieldAddr 62 t27 1
  refine RH.take 7 (fun _ _ _ _ h => h) (by kernel_rfl) hS rfl (by kernel_rfl) (by kernel_rfl) (fun wq hq => Y.load1 Tryd.underlying3 rfl (hB.chg hq (fun h => by omega)).mem.packreader1 rfl) (by decide) ?_   -- t29 := load 3 t28
  refine RH.take 8 (fun _ _ _ _ h => h) (by kernel_rfl) hS rfl (by kernel_rfl) (by kernel_rfl) (fun wq hq => Y.sub rfl rfl ⟨by omega, by omega⟩) (by decide) ?_   -- t30 := binOp sub 3 t29 c(32:i64) 3
  refine RH.take 9 (fun _ _ _ _ h => h) (by kernel_rfl) hS rfl (by kernel_rfl) (by kernel_rfl) (fun wq hq => Y.move rfl) (by decide) ?_   -- t31 := move t0
  refine RH.take 10 (fun _ _ _ _ h => h) (by kernel_rfl) hS rfl (by kernel_rfl) (by kernel_rfl) (fun wq hq => Y.nilCheck rfl) (by decide) ?_   -- t32 := nilCheck t31
  refine RH.take 11 (fun _ _ _ _ h => h) (by kernel_rfl) hS rfl (by kernel_rfl) (by kernel_rfl) (fun wq hq => Y.fieldAddr fo_packreader1 rfl) (by decide) ?_   -- t33 := fieldAddr 62 t32 1
  refine RH.take 12 (fun _ _ _ _ h => h) (by kernel_rfl) hS rfl (by kernel_rfl) (by kernel_rfl) (fun wq hq => Y.load1 Tryd.underlying3 rfl (hB.chg hq (fun h => by omega)).mem.packreader1 rfl) (by decide) ?_   -- t34 := load 3 t33
  refine RH.take 13 (fun _ _ _ _ h => h) (by kernel_rfl) hS rfl (by kernel_rfl) (by kernel_rfl) (fun wq hq => Y.slice_slI (i := at_) (j := at_ + 32) Tryd.underlying33 rfl rfl rfl sz0_uint8 (by omega) (by omega) (by omega) (by omega)) (by decide) ?_   -- t35 := slice 33 t25 t30 t34 none
  refine RH.take 14 (fun _ _ _ _ h => h) (by kernel_rfl) hS rfl (by kernel_rfl) (by kernel_rfl) (fun wq hq => Y.toArr Tryd.underlying31 rfl (by omega)) (by decide) ?_   -- t36 := sliceToArrayPointer 31 t35
  refine RH.take 15 (fun _ _ _ _ h => h) (by kernel_rfl) hS rfl (by kernel_rfl) (by kernel_rfl) (fun wq hq => Y.load Tryd.underlying31 rfl (show Mem wq _ (digC dd) from by have h1 := By.slMem (hmb.chg hq (fun h => by have := hbl hne _ rfl; omega)) hl hmc (i := at_) (j := at_ + 32) (by omega) (by omega); rw [Nat.add_sub_cancel_left] at h1; rw [hdd]; exact h1) (sz_apiDigest _) rfl) (by decide) ?_   -- t37 := load 31 t36
  refine RH.one 16 (by kernel_rfl) ?_
  refine RS.store rfl (g := g2) (pre := []) (old := digC Dig.zero) (post := []) (new := digC dd) rfl rfl rfl rfl (sz_apiDigest _) (by simpa using hB2.ext hx6) (by rw [digC_length, digC_length]) (one_digC) (fun w7 hc7 hB7_ => ?_)   -- store 31 t2 t37
  have hS := hS.trans hc7 (fun k _ h => h)
  have hB2 : Blk w7 g2 31 (digC dd) := by simpa using hB7_
  refine ⟨hS, ?_⟩
  refine RH.done (by kernel_rfl) ?_
  have hE := hE.stepO hS (fun k h => .inr (by omega))
  have hB := hB.chg hS (fun h => by omega)
  refine hK4 _ _ ?_; try clear hK4 K4
  refine CW.ret ?_
  exact ⟨_, _, rfl, hB2.mem, digC_length _, ⟨dd, at_ + 32, hgd, rfl, hE, hB⟩⟩
end Go.Proofs.YtoncdfpohdchgaaDoor

/- Packs are read: an object, walked. No condition. -/
namespace Go.Proofs.YtoncdfpohdchgaaDoor
open Go.RowKit Go.Fw Go.Pl Go.Sort

set_option maxRecDepth 100000 in
set_option maxHeartbeats 2000000 in
theorem pkobj_any (g : Nat) (bv : Value) (b : List UInt8) (at_ : Nat) (uv : Value) (ids : List Dig) (ahead : List UInt8) (depth : Nat) (w : World) (hB0 : Blk w g TPk [bv, .int .i64 (at_ : Int)]) (hb : By w bv b) (hbg : b ≠ [] → ∀ k, bv.ownBlock = some k → k ≠ g) (hat : at_ ≤ b.length) (hi : Own w TDg 32 uv (flatD ids)) (hig : ∀ k, uv.ownBlock = some k → k ≠ g) (hal : ahead.length ≤ 140737488351232) (hdp : depth ≤ 4) (hg0 : 0 < g) (hK : Mem w ⟨0, 0, none⟩ (wds keysL)) : Calls Tryd.prog 30 #[.pointer (some ⟨g, 0, none⟩), uv, .string (bs ahead), .int .i64 (depth : Int)] w (RetOr (fun v w' => ∃ d s dp a, robj b ids ahead depth at_ = .ok ((d, s, dp), a) ∧ v = .tuple #[digV d, .string (bs s), .int .i64 (dp : Int)] ∧ Chg (· = g) w w' ∧ Blk w' g TPk [bv, .int .i64 (a : Int)]) (RobS b ids ahead depth at_ g w)) := by
  have hbl := hb.ltB
  have hgl := hB0.lt
  obtain ⟨U, nu, cu, rfl⟩ := hi.lens
  obtain ⟨hil, hic, hicm⟩ := hi.len digC_length (by decide)
  unfold maxLen at hicm
  obtain ⟨id, hid, hzd, _⟩ := info_apiDigest
  refine calls_of_CWct_or 102 8 32 [9, 10] [(0, .pointer (some ⟨g, 0, none⟩)), (1, .slice U nu cu), (2, .string (bs ahead)), (3, .int .i64 (depth : Int))] Tryd.func30 rfl rfl rfl Tryd.underlying31 rfl (by kernel_rfl) (by simp) args4 ?_
  have hE : Chg (fun k => k = g) w w := Chg.refl
  refine CW.seq fun K1 hK1 => ?_
  refine CW.region ?_   -- region 0
  refine WL.alloc (hid) (hzd) rfl (by decide) fun g8 w1 hx1 hg8 hB8 => ?_   -- t8 := alloc 31
  have hlt8 := hB8.lt; have hz1 := hx1.size
  have hM8 := hB8.mem; have hz1 := hx1.size; have hE := hE.thenExt hx1; have hK := hK.ext hx1; have hb := hb.ext hx1; have hB0 := hB0.ext hx1
  refine WL.val (Y.assign rfl) (by decide) ?_   -- t9 := assign c(STR)
  refine WL.val (Y.assign rfl) (by decide) ?_   -- t10 := assign c(0:i64)
  refine WL.nil ?_
  refine hK1 _ _ ?_; try clear hK1 K1
  refine CW.seq fun K2 hK2 => ?_
  refine CW.region ?_   -- region 1
  refine WL.val (Y.move rfl) (by decide) ?_   -- t18 := move t0
  refine WL.callOr Tryd.func48 rfl rfl rfl (pkdig_any g bv b at_ _ hB0 hb hbg hat) (by simp) (fun ch w2 hP2 => ?_) ?_   -- t19 := call F48(t18) : 91
  · skip
    obtain ⟨e, he, rfl, hc⟩ := hP2
    exact (⟨e, robj_e1 he, rfl, hE.trans hc (fun _ _ h => h)⟩ : RobS b ids ahead depth at_ g w _ _)
  rintro v19 w2 hR2
  obtain ⟨d, a1, hgd, rfl, hc2, hB0⟩ := hR2
  have hz2 := hc2.size
  have hE := hE.trans hc2 (fun _ _ h => h)
  have hb := hb.chg hc2 hbg
  have hK := hK.chg hc2 (fun h => by have h : 0 = g := h; omega)
  have hB8 := hB8.chg hc2 (fun h => by have h : g8 = g := h; omega)
  have hi := (hi.ext hx1).chg hc2 (fun k hk h => hig k hk h)
  have hla := gdig_at hgd
  refine as_apiDigest rfl (by simp) (by decide) fun g11 w3 hx3 hg11 hB11 => ?_   -- alloc 31; store 31 t11 t19
  have hlt11 := hB11.lt; have hz3 := hx3.size
  have hM11 := hB11.mem; have hz3 := hx3.size; have hE := hE.thenExt hx3; have hK := hK.ext hx3; have hb := hb.ext hx3; have hB0 := hB0.ext hx3; have hB8 := hB8.ext hx3
  refine WL.nil ?_
  refine hK2 _ _ ?_; try clear hK2 K2
  refine CW.seq_to (X := Unit) (fun _ => [(0, .pointer (some ⟨g, 0, none⟩)), (1, .slice U nu cu), (2, .string (bs ahead)), (3, .int .i64 (depth : Int)), (8, .pointer (some ⟨g8, 0, none⟩)), (11, .pointer (some ⟨g11, 0, none⟩))]) (fun _ w0 => behind ids d = true ∧ Ext w3 w0) ?_ ?_
  · skip
    refine CW.held (fun wq => Ext w3 wq) (by kernel_rfl) 15 rfl fun w4 hS => ?_
    refine RH.take 0 (fun _ _ _ _ h => h) (by kernel_rfl) hS rfl (by kernel_rfl) (by kernel_rfl) (fun wq hq => Y.move rfl) (by decide) ?_   -- t20 := move t1
    refine RH.take 1 (fun _ _ _ _ h => h) (by kernel_rfl) hS rfl (by kernel_rfl) (by kernel_rfl) (fun wq hq => Y.len_slice Tryd.underlying29 rfl) (by decide) ?_   -- t21 := call len(t20) : 29
    refine RH.take 2 (fun _ _ _ _ h => h) (by kernel_rfl) hS rfl (by kernel_rfl) (by kernel_rfl) (fun wq hq => Y.gtr rfl rfl) (by decide) ?_   -- t22 := binOp gtr 3 t21 c(0:i64) 3
    refine RH.take 3 (fun _ _ _ _ h => h) (by kernel_rfl) hS rfl (by kernel_rfl) (by kernel_rfl) (fun wq hq => Y.move rfl) (by decide) ?_   -- t23 := move t22
    first | refine RH.casesD (d := 23) rfl (fun hg23 => ?_) (fun hg23 => ?_) | refine RH.cases (d := 23) rfl (fun hg23 => ?_) (fun hg23 => ?_)
    · -- t23 = T
      refine RH.gtake 4 (fun _ _ _ _ h => h) (by kernel_rfl) hS rfl (by kernel_rfl) (by kernel_rfl) rfl rfl (fun wq hq => Y.move rfl) (by decide) ?_   -- t24 := move t1
      refine RH.gtake 5 (fun _ _ _ _ h => h) (by kernel_rfl) hS rfl (by kernel_rfl) (by kernel_rfl) rfl rfl (fun wq hq => Y.move rfl) (by decide) ?_   -- t25 := move t1
      refine RH.gtake 6 (fun _ _ _ _ h => h) (by kernel_rfl) hS rfl (by kernel_rfl) (by kernel_rfl) rfl rfl (fun wq hq => Y.len_slice Tryd.underlying29 rfl) (by decide) ?_   -- t26 := call len(t25) : 29
      refine RH.gtake 7 (fun _ _ _ _ h => h) (by kernel_rfl) hS rfl (by kernel_rfl) (by kernel_rfl) rfl rfl (fun wq hq => Y.sub rfl rfl ⟨by omega, by omega⟩) (by decide) ?_   -- t27
      rw [show (nu : Int) - 1 = ((nu - 1 : Nat) : Int) from by omega]
      obtain ⟨xl, hxl⟩ : ∃ y, ids[nu - 1]? = some y := ⟨_, List.getElem?_eq_getElem (by omega)⟩
      obtain ⟨ia, rfl, hma⟩ := ((hi.ext hx3).sl digC_length (by decide)).at hxl
      refine RH.gtake 8 (fun _ _ _ _ h => h) (by kernel_rfl) hS rfl (by kernel_rfl) (by kernel_rfl) rfl rfl (fun wq hq => Y.indexAddrN Tryd.underlying29 rfl rfl sz0_apiDigest (by omega)) (by decide) ?_   -- t28 := indexAddr 29 t24 t27
      refine RH.gtake 9 (fun _ _ _ _ h => h) (by kernel_rfl) hS rfl (by kernel_rfl) (by kernel_rfl) rfl rfl (fun wq hq => Y.load Tryd.underlying31 rfl (hma.ext hq) (sz_apiDigest _) rfl) (by decide) ?_   -- t29 := load 31 t28
      refine RH.gtake 10 (fun _ _ _ _ h => h) (by kernel_rfl) hS rfl (by kernel_rfl) (by kernel_rfl) rfl rfl (fun wq hq => Y.load Tryd.underlying31 rfl (hB11.ext hq).mem (sz_apiDigest _) rfl) (by decide) ?_   -- t30 := load 31 t11
      refine RH.one 11 (by kernel_rfl) ?_
      refine RS.call rfl (fun _ _ h => by cases h; exact ⟨_, rfl, rfl⟩) Tryd.func49 rfl rfl rfl (less_any _ _ _) (by decide) fun v31 w5 hR5 => ?_   -- call F49(t29, t30) : 31,31
      obtain ⟨rfl, hx5⟩ := hR5
      have hS := hS.thenExt hx5
      refine ⟨hS, ?_⟩
      refine RH.gtake 12 (fun _ _ _ _ h => h) (by kernel_rfl) hS rfl (by kernel_rfl) (by kernel_rfl) rfl rfl (fun wq hq => Y.not rfl) (by decide) ?_   -- t32 := unOp not 4 t31
      refine RH.take 13 (fun _ _ _ _ h => h) (by kernel_rfl) hS rfl (by kernel_rfl) (by kernel_rfl) (fun wq hq => Y.pick rfl rfl) (by decide) ?_   -- t33 := pick t23 t32 c(false)
      refine RH.one 14 (by kernel_rfl) ?_
      refine RS.callOr rfl Tryd.func28 rfl rfl rfl (prefuse_any _ _ _) (by simp) (fun ch w6 hP6 => ?_) ?_   -- call F28(t33, c(7:i64)) : 4,23
      · skip
        obtain ⟨h1, rfl, hx⟩ := hP6
        exact (⟨7, robj_e2 hgd (by rw [behind_last (by rw [hil]; exact hxl)]; simpa using h1), rfl, (hE.thenExt hS).thenExt hx⟩ : RobS b ids ahead depth at_ g w _ _)
      rintro v34 w6 hR6
      obtain ⟨h1, rfl, hx6⟩ := hR6
      have hS := hS.thenExt hx6
      refine ⟨hS, ?_⟩
      refine RH.done (by kernel_rfl) ?_
      have hx7 := hS; have hz7 := hx7.size; have hE := hE.thenExt hx7; have hK := hK.ext hx7; have hb := hb.ext hx7; have hB0 := hB0.ext hx7; have hB8 := hB8.ext hx7; have hB11 := hB11.ext hx7
      exact ⟨(), (by repeat (first | exact Fr.le.nil | refine Fr.le.cons rfl ?_)), by rw [behind_last (by rw [hil]; exact hxl)]; simpa using h1, hx7⟩
    · -- t23 = F
      refine RH.goff 4 (fun _ _ _ _ h => h) (by kernel_rfl) hS rfl (by kernel_rfl) (by kernel_rfl) rfl rfl (by decide) ?_   -- t24 := move t1
      refine RH.goff 5 (fun _ _ _ _ h => h) (by kernel_rfl) hS rfl (by kernel_rfl) (by kernel_rfl) rfl rfl (by decide) ?_   -- t25 := move t1
      refine RH.goff 6 (fun _ _ _ _ h => h) (by kernel_rfl) hS rfl (by kernel_rfl) (by kernel_rfl) rfl rfl (by decide) ?_   -- t26 := call len(t25) : 29
      refine RH.goff 7 (fun _ _ _ _ h => h) (by kernel_rfl) hS rfl (by kernel_rfl) (by kernel_rfl) rfl rfl (by decide) ?_   -- t27 := binOp sub 3 t26 c(1:i64) 3
      refine RH.goff 8 (fun _ _ _ _ h => h) (by kernel_rfl) hS rfl (by kernel_rfl) (by kernel_rfl) rfl rfl (by decide) ?_   -- t28 := indexAddr 29 t24 t27
      refine RH.goff 9 (fun _ _ _ _ h => h) (by kernel_rfl) hS rfl (by kernel_rfl) (by kernel_rfl) rfl rfl (by decide) ?_   -- t29 := load 31 t28
      refine RH.goff 10 (fun _ _ _ _ h => h) (by kernel_rfl) hS rfl (by kernel_rfl) (by kernel_rfl) rfl rfl (by decide) ?_   -- t30 := load 31 t11
      refine RH.goff 11 (fun _ _ _ _ h => h) (by kernel_rfl) hS rfl (by kernel_rfl) (by kernel_rfl) rfl rfl (by decide) ?_   -- t31 := call F49(t29, t30) : 31,31
      refine RH.goff 12 (fun _ _ _ _ h => h) (by kernel_rfl) hS rfl (by kernel_rfl) (by kernel_rfl) rfl rfl (by decide) ?_   -- t32 := unOp not 4 t31
      refine RH.take 13 (fun _ _ _ _ h => h) (by kernel_rfl) hS rfl (by kernel_rfl) (by kernel_rfl) (fun wq hq => Y.pick rfl rfl) (by decide) ?_   -- t33 := pick t23 t32 c(false)
      refine RH.one 14 (by kernel_rfl) ?_
      refine RS.callOr rfl Tryd.func28 rfl rfl rfl (prefuse_any _ _ _) (by simp) (fun ch w8 hP8 => ?_) ?_   -- call F28(t33, c(7:i64)) : 4,23
      · skip
        exact absurd hP8.1 (by decide)
      rintro v34 w8 hR8
      obtain ⟨_, rfl, hx8⟩ := hR8
      have hS := hS.thenExt hx8
      refine ⟨hS, ?_⟩
      refine RH.done (by kernel_rfl) ?_
      have hx9 := hS; have hz9 := hx9.size; have hE := hE.thenExt hx9; have hK := hK.ext hx9; have hb := hb.ext hx9; have hB0 := hB0.ext hx9; have hB8 := hB8.ext hx9; have hB11 := hB11.ext hx9
      exact ⟨(), (by repeat (first | exact Fr.le.nil | refine Fr.le.cons rfl ?_)), by rw [show ids = [] from List.eq_nil_of_length_eq_zero (by omega)]; rfl, hx9⟩
  rintro u w10 hj10
  obtain ⟨hbh, hx10⟩ := hj10
  have hz10 := hx10.size
  have hE := hE.thenExt hx10
  have hK := hK.ext hx10
  have hb := hb.ext hx10
  have hB0 := hB0.ext hx10
  have hB8 := hB8.ext hx10
  have hB11 := hB11.ext hx10
  refine CW.seq fun K3 hK3 => ?_
  refine CW.region ?_   -- region 3
  refine WL.val (Y.move rfl) (by decide) ?_   -- t35 := move t0
  refine WL.callOr Tryd.func29 rfl rfl rfl (pknum_any g bv b a1 _ hB0 hb hbg hla.2) (by simp) (fun ch w11 hP11 => ?_) ?_   -- t36 := call F29(t35) : 91
  · skip
    obtain ⟨e, he, rfl, hc⟩ := hP11
    exact (⟨e, robj_e3 hgd hbh he, rfl, hE.trans hc (fun _ _ h => h)⟩ : RobS b ids ahead depth at_ g w _ _)
  rintro v36 w11 hR11
  obtain ⟨k, a2, hgn, rfl, hc11, hB0⟩ := hR11
  have hz11 := hc11.size
  have hE := hE.trans hc11 (fun _ _ h => h)
  have hb := hb.chg hc11 hbg
  have hK := hK.chg hc11 (fun h => by have h : 0 = g := h; omega)
  have hB8 := hB8.chg hc11 (fun h => by have h : g8 = g := h; omega)
  have hB11 := hB11.chg hc11 (fun h => by have h : g11 = g := h; omega)
  have hla2 := (gnum_len hgn hla.2).2
  have hkb := (snd_num _ _ _ _ hla.2 hgn).2.2.2
  refine WL.val (Y.assign rfl) (by decide) ?_   -- t12 := assign t36
  refine WL.nil ?_
  refine hK3 _ _ ?_; try clear hK3 K3
  refine CW.seq_to (X := Unit) (fun _ => [(0, .pointer (some ⟨g, 0, none⟩)), (1, .slice U nu cu), (2, .string (bs ahead)), (3, .int .i64 (depth : Int)), (8, .pointer (some ⟨g8, 0, none⟩)), (11, .pointer (some ⟨g11, 0, none⟩)), (12, .int .i64 (k : Int))]) (fun _ w0 => ¬ (1 < k ∨ (k = 1 ∧ ids = [])) ∧ Ext w11 w0) ?_ ?_
  · skip
    refine CW.region ?_   -- region 4
    refine WL.val (Y.move rfl) (by decide) ?_   -- t37 := move t12
    refine WL.val (Y.gtr rfl rfl) (by decide) ?_   -- t38 := binOp gtr 3 t37 c(1:i64) 3
    refine WL.val (Y.move rfl) (by decide) ?_   -- t39 := move t38
    first | refine WL.casesD (d := 39) rfl (fun hg39 => ?_) (fun hg39 => ?_) | refine WL.casesND (d := 39) rfl (fun hg39 => ?_) (fun hg39 => ?_) | refine WL.cases (d := 39) rfl (fun hg39 => ?_) (fun hg39 => ?_)
    · -- t39 = T
      refine WL.goff rfl rfl (by decide) ?_   -- t40 := move t12 [if 2=false]
      refine WL.goff rfl rfl (by decide) ?_   -- t41 := binOp eql 3 t40 c(1:i64) 3 [if 2=false]
      refine WL.goff rfl rfl (by decide) ?_   -- t42 := move t41 [if 2=false]
      refine WL.goffU rfl rfl (by decide) ?_   -- t43 := move t1 [if 5=true]
      refine WL.goffU rfl rfl (by decide) ?_   -- t44 := call len(t43) : 29 [if 5=true]
      refine WL.goffU rfl rfl (by decide) ?_   -- t45 := binOp eql 3 t44 c(0:i64) 3 [if 5=true]
      refine WL.goff rfl rfl (by decide) ?_   -- t46 := pick t42 t45 c(false) [if 2=false]
      refine WL.val (Y.pick rfl rfl) (by decide) ?_   -- t47 := pick t39 c(true) t46
      refine WL.callOr Tryd.func28 rfl rfl rfl (prefuse_any _ _ _) (by simp) (fun ch w12 hP12 => ?_) ?_   -- t48 := call F28(t47, c(7:i64)) : 4,23
      · skip
        obtain ⟨h1, rfl, hx⟩ := hP12
        exact (⟨7, robj_e4 hgd hbh hgn (.inl (by omega)), rfl, hE.thenExt hx⟩ : RobS b ids ahead depth at_ g w _ _)
      rintro v48 w12 hR12
      obtain ⟨h1, rfl, hx12⟩ := hR12
      refine WL.nil ?_
      exact absurd h1 (by decide)
    · -- t39 = F
      refine WL.gval rfl rfl (Y.move rfl) (by decide) ?_   -- t40 := move t12 [if 2=false]
      refine WL.gval rfl rfl (Y.eql rfl rfl) (by decide) ?_   -- t41 := binOp eql 3 t40 c(1:i64) 3 [if 2=false]
      refine WL.gval rfl rfl (Y.move rfl) (by decide) ?_   -- t42 := move t41 [if 2=false]
      first | refine WL.casesD (d := 42) rfl (fun hg42 => ?_) (fun hg42 => ?_) | refine WL.casesND (d := 42) rfl (fun hg42 => ?_) (fun hg42 => ?_) | refine WL.cases (d := 42) rfl (fun hg42 => ?_) (fun hg42 => ?_)
      · -- t42 = T
        refine WL.gval rfl rfl (Y.move rfl) (by decide) ?_   -- t43 := move t1 [if 5=true]
        refine WL.gval rfl rfl (Y.len_slice Tryd.underlying29 rfl) (by decide) ?_   -- t44 := call len(t43) : 29 [if 5=true]
        refine WL.gval rfl rfl (Y.eql rfl rfl) (by decide) ?_   -- t45 := binOp eql 3 t44 c(0:i64) 3 [if 5=true]
        refine WL.gval rfl rfl (Y.pick rfl rfl) (by decide) ?_   -- t46 := pick t42 t45 c(false) [if 2=false]
        refine WL.val (Y.pick rfl rfl) (by decide) ?_   -- t47 := pick t39 c(true) t46
        refine WL.callOr Tryd.func28 rfl rfl rfl (prefuse_any _ _ _) (by simp) (fun ch w13 hP13 => ?_) ?_   -- t48 := call F28(t47, c(7:i64)) : 4,23
        · skip
          obtain ⟨h1, rfl, hx⟩ := hP13
          exact (⟨7, robj_e4 hgd hbh hgn (.inr ⟨by omega, List.eq_nil_of_length_eq_zero (by have := of_decide_eq_true h1; omega)⟩), rfl, hE.thenExt hx⟩ : RobS b ids ahead depth at_ g w _ _)
        rintro v48 w13 hR13
        obtain ⟨h1, rfl, hx13⟩ := hR13
        refine WL.nil ?_
        exact ⟨(), (by repeat (first | exact Fr.le.nil | refine Fr.le.cons rfl ?_)), by rintro (h | ⟨_, h⟩); omega; exact of_decide_eq_false h1 (by rw [h] at hil; simp at hil; omega), hx13⟩
      · -- t42 = F
        refine WL.goff rfl rfl (by decide) ?_   -- t43 := move t1 [if 5=true]
        refine WL.goff rfl rfl (by decide) ?_   -- t44 := call len(t43) : 29 [if 5=true]
        refine WL.goff rfl rfl (by decide) ?_   -- t45 := binOp eql 3 t44 c(0:i64) 3 [if 5=true]
        refine WL.gval rfl rfl (Y.pick rfl rfl) (by decide) ?_   -- t46 := pick t42 t45 c(false) [if 2=false]
        refine WL.val (Y.pick rfl rfl) (by decide) ?_   -- t47 := pick t39 c(true) t46
        refine WL.callOr Tryd.func28 rfl rfl rfl (prefuse_any _ _ _) (by simp) (fun ch w14 hP14 => ?_) ?_   -- t48 := call F28(t47, c(7:i64)) : 4,23
        · skip
          exact absurd hP14.1 (by decide)
        rintro v48 w14 hR14
        obtain ⟨_, rfl, hx14⟩ := hR14
        refine WL.nil ?_
        exact ⟨(), (by repeat (first | exact Fr.le.nil | refine Fr.le.cons rfl ?_)), by rintro (h | ⟨h, _⟩) <;> omega, hx14⟩
  rintro u w15 hj15
  obtain ⟨hkk, hx15⟩ := hj15
  have hz15 := hx15.size
  have hE := hE.thenExt hx15
  have hK := hK.ext hx15
  have hb := hb.ext hx15
  have hB0 := hB0.ext hx15
  have hB8 := hB8.ext hx15
  have hB11 := hB11.ext hx15
  have hk01 : k = 0 ∨ k = 1 := by omega
  have hcast : ((depth : Int) + 1) * (k : Int) = (((depth + 1) * k : Nat) : Int) := by rw [Int.natCast_mul]; rfl
  have hmulN : (depth + 1) * k ≤ 5 := by rcases hk01 with h | h <;> rw [h] <;> omega
  have hmul : InI64 (((depth : Int) + 1) * (k : Int)) := by rw [hcast]; exact ⟨by omega, by omega⟩
  refine CW.seq fun K4 hK4 => ?_
  refine CW.region ?_   -- region 5
  refine WL.val (Y.move rfl) (by decide) ?_   -- t49 := move t3
  refine WL.val (Y.add rfl rfl ⟨by omega, by omega⟩) (by decide) ?_   -- t50 := binOp add 3 t49 c(1:i64) 3
  refine WL.val (Y.move rfl) (by decide) ?_   -- t51 := move t12
  refine WL.val (Y.mul rfl rfl hmul) (by decide) ?_   -- t52
  rw [hcast]
  refine WL.val (Y.assign rfl) (by decide) ?_   -- t3 := assign t52
  refine WL.nil ?_
  refine hK4 _ _ ?_; try clear hK4 K4
  refine CW.seq fun K5 hK5 => ?_
  refine CW.region ?_   -- region 6
  refine WL.val (Y.move rfl) (by decide) ?_   -- t53 := move t3
  refine WL.val (Y.gtr rfl rfl) (by decide) ?_   -- t54 := binOp gtr 3 t53 c(4:i64) 3
  refine WL.callOr Tryd.func28 rfl rfl rfl (prefuse_any _ _ _) (by simp) (fun ch w16 hP16 => ?_) ?_   -- t55 := call F28(t54, c(13:i64)) : 4,23
  · skip
    obtain ⟨h1, rfl, hx⟩ := hP16
    exact (⟨13, robj_e5 hgd hbh hgn hkk (by have := of_decide_eq_true h1; omega), rfl, hE.thenExt hx⟩ : RobS b ids ahead depth at_ g w _ _)
  rintro v55 w16 hR16
  obtain ⟨h1, rfl, hx16⟩ := hR16
  have hd4 : ¬ 4 < (depth + 1) * k := by have := of_decide_eq_false h1; omega
  have hz16 := hx16.size
  have hE := hE.thenExt hx16
  have hK := hK.ext hx16
  have hb := hb.ext hx16
  have hB0 := hB0.ext hx16
  have hB8 := hB8.ext hx16
  have hB11 := hB11.ext hx16
  refine WL.nil ?_
  refine hK5 _ _ ?_; try clear hK5 K5
  refine CW.seq fun K6 hK6 => ?_
  refine CW.quiet (fun wq => Ext w16 wq) (by kernel_rfl) (by kernel_rfl) Chg.drew ?_
  refine QL.val (fun wq hq => Y.move rfl) (by decide) ?_   -- t57 := move t0
  refine QL.val (fun wq hq => Y.nilCheck rfl) (by decide) ?_   -- t58 := nilCheck t57
  refine QL.val (fun wq hq => Y.fieldAddr fo_packreader0 rfl) (by decide) ?_   -- t59 := fieldAddr 62 t58 0
  refine QL.val (fun wq hq => Y.load1 Tryd.underlying33 rfl (hB0.ext hq).mem.packreader0 rfl) (by decide) ?_   -- t60 := load 33 t59
  refine QL.val (fun wq hq => Y.move rfl) (by decide) ?_   -- t61 := move t0
  refine QL.val (fun wq hq => Y.nilCheck rfl) (by decide) ?_   -- t62 := nilCheck t61
  refine QL.val (fun wq hq => Y.fieldAddr fo_packreader1 rfl) (by decide) ?_   -- t63 := fieldAddr 62 t62 1
  refine QL.val (fun wq hq => Y.load1 Tryd.underlying3 rfl (hB0.ext hq).mem.packreader1 rfl) (by decide) ?_   -- t64 := load 3 t63
  refine QL.call Tryd.func50 rfl rfl rfl (fun wq hq => ret_ext (getText_any _ b a2 _ (hb.ext hq) hla2) hq) (by simp) ?_   -- t65 := call F50(t60, t64) : 33,3
  refine QL.val (fun wq hq => Y.move rfl) (by decide) ?_   -- t56 := move t65
  refine QL.val (fun wq hq => Y.extract rfl rfl) (by decide) ?_   -- t66 := extract t56 0
  refine QL.val (fun wq hq => Y.extract rfl rfl) (by decide) ?_   -- t67 := extract t56 1
  refine QL.val (fun wq hq => Y.extract rfl rfl) (by decide) ?_   -- t68 := extract t56 2
  refine QL.val (fun wq hq => Y.assign rfl) (by decide) ?_   -- t13 := assign t66
  refine QL.val (fun wq hq => Y.assign rfl) (by decide) ?_   -- t14 := assign t67
  refine QL.val (fun wq hq => Y.assign rfl) (by decide) ?_   -- t15 := assign t68
  refine QL.nil fun w17 hx17 => ?_
  have hz17 := hx17.size
  have hE := hE.thenExt hx17
  have hK := hK.ext hx17
  have hb := hb.ext hx17
  have hB0 := hB0.ext hx17
  have hB8 := hB8.ext hx17
  have hB11 := hB11.ext hx17
  refine hK6 _ _ ?_; try clear hK6 K6
  refine CW.seq fun K7 hK7 => ?_
  refine CW.region ?_   -- region 8
  refine WL.val (Y.move rfl) (by decide) ?_   -- t69 := move t15
  refine WL.val (Y.neq rfl rfl) (by decide) ?_   -- t70 := binOp neq 23 t69 c(0:i64) 23
  refine WL.val (Y.move rfl) (by decide) ?_   -- t71 := move t15
  refine WL.callOr Tryd.func28 rfl rfl rfl (prefuse_any _ _ _) (by simp) (fun ch w18 hP18 => ?_) ?_   -- t72 := call F28(t70, t71) : 4,23
  · skip
    obtain ⟨h1, rfl, hx⟩ := hP18
    exact (⟨gtE b a2, robj_e6 hgd hbh hgn hkk hd4 (gtE_ne (of_decide_eq_true h1)), rfl, hE.thenExt hx⟩ : RobS b ids ahead depth at_ g w _ _)
  rintro v72 w18 hR18
  obtain ⟨h1, rfl, hx18⟩ := hR18
  obtain ⟨s, a3, hgt, hN, hX⟩ := gtE_zero (Decidable.not_not.1 (of_decide_eq_false h1))
  rw [hN, hX]
  have hz18 := hx18.size
  have hE := hE.thenExt hx18
  have hK := hK.ext hx18
  have hb := hb.ext hx18
  have hB0 := hB0.ext hx18
  have hB8 := hB8.ext hx18
  have hB11 := hB11.ext hx18
  have hsl := gtext_len hgt hla2
  refine WL.nil ?_
  refine hK7 _ _ ?_; try clear hK7 K7
  refine CW.seq fun K8 hK8 => ?_
  refine CW.region ?_   -- region 9
  refine WL.val (Y.move rfl) (by decide) ?_   -- t73 := move t0
  refine WL.val (Y.move rfl) (by decide) ?_   -- t74 := move t14
  refine WL.val (Y.nilCheck rfl) (by decide) ?_   -- t75 := nilCheck t73
  refine WL.val (Y.fieldAddr fo_packreader1 rfl) (by decide) ?_   -- t76 := fieldAddr 62 t75 1
  refine WL.store (g := g) (pre := [bv]) (old := [.int .i64 (a2 : Int)]) (post := []) (new := [.int .i64 (a3 : Int)]) rfl rfl rfl rfl (by kernel_rfl) (by simpa using hB0) (by first | rfl | (simp [digC_length, opC_length]; done) | (simp only [digC_length, opC_length]; omega)) (one1 rfl) (fun w19 hc19 hB19_ => ?_)   -- _ := store 3 t76 t74
  have hz19 := hc19.size; have hE := hE.stepO hc19 (fun k h => (by show (k = g) ∨ _; omega)); have hK := hK.chg hc19 (fun h => by change 0 = _ at h; omega); have hb := hb.chg hc19 (fun h0 k hk h => by first | exact hbg h0 k hk h | (have := hbl h0 k hk; omega)); have hB8 := hB8.chg hc19 (fun h => by omega); have hB11 := hB11.chg hc19 (fun h => by omega)
  have hB0 : Blk w19 g TPk [bv, .int .i64 (a3 : Int)] := by simpa using hB19_
  refine WL.nil ?_
  refine hK8 _ _ ?_; try clear hK8 K8
  refine CW.seq_to (X := List UInt8) (fun y => [(0, .pointer (some ⟨g, 0, none⟩)), (1, .slice U nu cu), (2, .string (bs ahead)), (3, .int .i64 (((depth + 1) * k : Nat) : Int)), (8, .pointer (some ⟨g8, 0, none⟩)), (11, .pointer (some ⟨g11, 0, none⟩)), (12, .int .i64 (k : Int)), (13, .string (bs y))]) (fun y w0 => ((k = 1 ∧ apB ahead s = (y, 0)) ∨ (k ≠ 1 ∧ y = s)) ∧ y.length ≤ 140737488351232 ∧ Ext w19 w0) ?_ ?_
  · skip
    refine CW.seq fun K10 hK10 => ?_
    refine CW.region ?_   -- region 10
    refine WL.val (Y.move rfl) (by decide) ?_   -- t77 := move t12
    refine WL.val (Y.eql rfl rfl) (by decide) ?_   -- t78 := binOp eql 3 t77 c(1:i64) 3
    refine WL.nil ?_
    refine hK10 _ _ ?_; try clear hK10 K10
    first | refine CW.condD rfl (fun ht11 => ?_) (fun ht11 => ?_) | refine CW.condND rfl (fun ht11 => ?_) (fun ht11 => ?_) | refine CW.condN rfl (fun ht11 => ?_) (fun ht11 => ?_) | refine CW.cond rfl (fun ht11 => ?_) (fun ht11 => ?_)
    · -- then
      refine CW.seq fun K12 hK12 => ?_
      refine CW.region ?_   -- region 11
      refine WL.val (Y.move rfl) (by decide) ?_   -- t80 := move t2
      refine WL.st (St.strBytes Tryd.underlying9 Tryd.underlying33 Tryd.underlying5 rfl (by rw [bs_size]; omega)) (by decide) fun v81 w20 hR20 => ?_   -- t81 := convert 9 33 t80
      obtain ⟨hO81, hx20, hf20⟩ := hR20
      rw [bs_toList] at hO81
      have hz20 := hx20.size
      have hE := hE.thenExt hx20
      have hK := hK.ext hx20
      have hb := hb.ext hx20
      have hB0 := hB0.ext hx20
      have hB8 := hB8.ext hx20
      have hB11 := hB11.ext hx20
      refine WL.val (Y.move rfl) (by decide) ?_   -- t82 := move t13
      refine WL.st (St.strBytes Tryd.underlying9 Tryd.underlying33 Tryd.underlying5 rfl (by rw [bs_size]; omega)) (by decide) fun v83 w21 hR21 => ?_   -- t83 := convert 9 33 t82
      obtain ⟨hO83, hx21, hf21⟩ := hR21
      rw [bs_toList] at hO83
      have hz21 := hx21.size
      have hE := hE.thenExt hx21
      have hK := hK.ext hx21
      have hb := hb.ext hx21
      have hB0 := hB0.ext hx21
      have hB8 := hB8.ext hx21
      have hB11 := hB11.ext hx21
      refine WL.call Tryd.func51 rfl rfl rfl (apply_any _ _ ahead s _ (hO81.ext hx21).by hO83.by) (by simp) ?_; rintro v84 w22 hR22   -- t84 := call F51(t81, t83) : 33,33
      obtain ⟨x, rfl, hOx, hfx, hx22⟩ := hR22
      have hz22 := hx22.size
      have hE := hE.thenExt hx22
      have hK := hK.ext hx22
      have hb := hb.ext hx22
      have hB0 := hB0.ext hx22
      have hB8 := hB8.ext hx22
      have hB11 := hB11.ext hx22
      refine WL.val (Y.move rfl) (by decide) ?_   -- t79 := move t84
      refine WL.val (Y.extract rfl rfl) (by decide) ?_   -- t85 := extract t79 0
      refine WL.val (Y.extract rfl rfl) (by decide) ?_   -- t86 := extract t79 1
      refine WL.val (Y.assign rfl) (by decide) ?_   -- t16 := assign t85
      refine WL.val (Y.assign rfl) (by decide) ?_   -- t17 := assign t86
      refine WL.nil ?_
      refine hK12 _ _ ?_; try clear hK12 K12
      refine CW.seq fun K13 hK13 => ?_
      refine CW.region ?_   -- region 12
      refine WL.val (Y.move rfl) (by decide) ?_   -- t87 := move t17
      refine WL.val (Y.neq rfl rfl) (by decide) ?_   -- t88 := binOp neq 23 t87 c(0:i64) 23
      refine WL.val (Y.move rfl) (by decide) ?_   -- t89 := move t17
      refine WL.callOr Tryd.func28 rfl rfl rfl (prefuse_any _ _ _) (by simp) (fun ch w23 hP23 => ?_) ?_   -- t90 := call F28(t88, t89) : 4,23
      · skip
        obtain ⟨h1, rfl, hx⟩ := hP23
        exact (⟨(apB ahead s).2, robj_e7 hgd hbh hgn hkk hd4 hgt (by omega) (of_decide_eq_true h1), rfl, hE.thenExt hx⟩ : RobS b ids ahead depth at_ g w _ _)
      rintro v90 w23 hR23
      obtain ⟨h1, rfl, hx23⟩ := hR23
      have hOx := hOx.ext hx23
      obtain ⟨Xx, xm, xc, rfl⟩ := hOx.lens
      refine WL.nil ?_
      refine hK13 _ _ ?_; try clear hK13 K13
      refine CW.region ?_   -- region 13
      refine WL.val (Y.move rfl) (by decide) ?_   -- t91 := move t16
      refine WL.val (Y.bytes_string Tryd.underlying33 Tryd.underlying5 Tryd.underlying9 rfl hOx.by.len.1 hOx.by.mem.1 hOx.by.mem.2) (by decide) ?_   -- t92 := convert 33 9 t91
      refine WL.val (Y.assign rfl) (by decide) ?_   -- t13 := assign t92
      refine WL.nil ?_
      exact ⟨(apB ahead s).1, (by repeat (first | exact Fr.le.nil | refine Fr.le.cons rfl ?_)), .inl ⟨by omega, Prod.ext rfl (Decidable.not_not.1 (of_decide_eq_false h1))⟩, by have := apB_len ahead s; omega, ((hx20.thenExt hx21).thenExt hx22).thenExt hx23⟩
    -- else
    refine CW.skip ?_
    exact ⟨s, (by repeat (first | exact Fr.le.nil | refine Fr.le.cons rfl ?_)), .inr ⟨by omega, rfl⟩, by omega, Chg.refl⟩
  rintro u w24 hj24
  obtain ⟨hr, hyl, hx24⟩ := hj24
  have hz24 := hx24.size
  have hE := hE.thenExt hx24
  have hK := hK.ext hx24
  have hb := hb.ext hx24
  have hB0 := hB0.ext hx24
  have hB8 := hB8.ext hx24
  have hB11 := hB11.ext hx24
  refine CW.seq fun K14 hK14 => ?_
  refine CW.held (fun wq => Ext w24 wq) (by kernel_rfl) 6 rfl fun w25 hS => ?_
  refine RH.take 0 (fun _ _ _ _ h => h) (by kernel_rfl) hS rfl (by kernel_rfl) (by kernel_rfl) (fun wq hq => Y.move rfl) (by decide) ?_   -- t93 := move t13
  refine RH.take 3 (fun _ _ _ _ h => h) (by kernel_rfl) hS rfl (by kernel_rfl) (by kernel_rfl) (fun wq hq => Y.load Tryd.underlying31 rfl (hB11.ext hq).mem (sz_apiDigest _) rfl) (by decide) ?_   -- t96 := load 31 t11
  refine RH.one 1 (by kernel_rfl) ?_
  refine RS.st rfl (St.strBytes Tryd.underlying9 Tryd.underlying33 Tryd.underlying5 rfl (by rw [bs_size]; exact hyl)) (by decide) fun v94 w26 hR26 => ?_   -- convert 9 33 t93
  obtain ⟨hO94, hx26, hf26⟩ := hR26
  rw [bs_toList] at hO94
  have hS := hS.thenExt hx26
  refine ⟨hS, ?_⟩
  refine RH.one 2 (by kernel_rfl) ?_
  refine RS.call rfl (fun _ _ h => by cases h) Tryd.func12 rfl rfl rfl (sum_any _ u _ hO94.by (fun _ k hk => hO94.lt k hk) (hK.ext hS) hyl) (by decide) fun v95 w27 hR27 => ?_   -- call F12(t94) : 33
  obtain ⟨rfl, hx27⟩ := hR27
  have hS := hS.thenExt hx27
  refine ⟨hS, ?_⟩
  refine RH.take 4 (fun _ _ _ _ h => h) (by kernel_rfl) hS rfl (by kernel_rfl) (by kernel_rfl) (fun wq hq => Y.neq_apiDigest rfl rfl) (by decide) ?_   -- t97 := binOp neq 31 t95 t96 31
  refine RH.one 5 (by kernel_rfl) ?_
  refine RS.callOr rfl Tryd.func28 rfl rfl rfl (prefuse_any _ _ _) (by simp) (fun ch w28 hP28 => ?_) ?_   -- call F28(t97, c(10:i64)) : 4,23
  · skip
    obtain ⟨h1, rfl, hx⟩ := hP28
    exact (⟨10, by rw [robj_last hgd hbh hgn hkk hd4 hgt hr, if_pos (by simpa using h1)], rfl, (hE.thenExt hS).thenExt hx⟩ : RobS b ids ahead depth at_ g w _ _)
  rintro v98 w28 hR28
  obtain ⟨h1, rfl, hx28⟩ := hR28
  have hS := hS.thenExt hx28
  refine ⟨hS, ?_⟩
  refine RH.done (by kernel_rfl) ?_
  have hx29 := hS; have hz29 := hx29.size; have hE := hE.thenExt hx29; have hK := hK.ext hx29; have hb := hb.ext hx29; have hB0 := hB0.ext hx29; have hB8 := hB8.ext hx29; have hB11 := hB11.ext hx29
  refine hK14 _ _ ?_; try clear hK14 K14
  refine CW.seq fun K15 hK15 => ?_
  refine CW.region ?_   -- region 15
  refine WL.val (Y.load Tryd.underlying31 rfl hB11.mem (sz_apiDigest _) rfl) (by decide) ?_   -- t99 := load 31 t11
  refine WL.val (Y.move rfl) (by decide) ?_   -- t100 := move t13
  refine WL.val (Y.move rfl) (by decide) ?_   -- t101 := move t3
  refine WL.store (g := g8) (pre := []) (old := digC Dig.zero) (post := []) (new := digC d) rfl rfl rfl rfl (sz_apiDigest _) (by simpa using hB8) (by first | rfl | (simp [digC_length, opC_length]; done) | (simp only [digC_length, opC_length]; omega)) (one_digC) (fun w30 hc30 hB30_ => ?_)   -- _ := store 31 t8 t99
  have hz30 := hc30.size; have hE := hE.stepO hc30 (fun k h => (by show (k = g) ∨ _; omega)); have hK := hK.chg hc30 (fun h => by change 0 = _ at h; omega); have hb := hb.chg hc30 (fun h0 k hk h => by first | exact hbg h0 k hk h | (have := hbl h0 k hk; omega)); have hB0 := hB0; have hB11 := hB11.chg hc30 (fun h => by omega)
  have hB8 : Blk w30 g8 31 (digC d) := by simpa using hB30_
  have hB0 := hB0.chg hc30 (fun h => by have h : g = g8 := h; omega)
  refine WL.val (Y.assign rfl) (by decide) ?_   -- t9 := assign t100
  refine WL.val (Y.assign rfl) (by decide) ?_   -- t10 := assign t101
  refine WL.nil ?_
  refine hK15 _ _ ?_; try clear hK15 K15
  refine CW.ret ?_
  exact ⟨_, _, _, rfl, hB8.mem, digC_length _, rfl, ⟨d, u, (depth + 1) * k, a3, by rw [robj_last hgd hbh hgn hkk hd4 hgt hr, if_neg (by simpa using h1)], rfl, hE, hB0⟩⟩
end Go.Proofs.YtoncdfpohdchgaaDoor

/- pack.Read, walked: it answers as the plain reading does. No condition. -/
namespace Go.Fw
open Go.RowKit
section
variable {P : Program} {n : NN} {fr : Fr} {w : World} {ty : TypeId}
theorem cut_bs (p : List UInt8) {i j : Nat} (h : j ≤ p.length) : (bs p).extract i j = bs ((p.drop i).take (j - i)) := by
  apply ByteArray.ext
  rw [ByteArray.data_extract]
  show p.toArray.extract i j = ((p.drop i).take (j - i)).toArray
  apply Array.ext'
  simp [Array.toList_extract, List.extract_eq_take_drop]
theorem Y.strHead {x hi : Operand} {p : List UInt8} {t : TypeId} {j : Nat} {kj : IntKind} {zj : Int} (hT : P.underlying t = some .string) (hx : ev fr x = some (.string (bs p))) (hhi : ev fr hi = some (.int kj zj)) (hj' : zj = (j : Int)) (h2 : j ≤ p.length) :
    Yw P n fr (.slice t x none (some hi) none) ty w (.string (bs (p.take j))) w := fun b o' ho _ ha => by
  subst hj'
  have e2 : (0 : Int) ≤ (j : Int) := by omega
  have e3 := cut_bs p (i := 0) h2
  rw [List.drop_zero, Nat.sub_zero] at e3
  have e4 : j ≤ (bs p).size := by rw [bs_size]; exact h2
  simp [execOp, ho, ha.ev hx, ha.ev hhi, Instr.sliceAt, Instr.slice, run_underlying hT, Instr.sliceBounds, Instr.sliceBound, asIntOf, e2, e3, e4]
theorem Y.strTail {x lo : Operand} {p : List UInt8} {t : TypeId} {i : Nat} {ki : IntKind} {zi : Int} (hT : P.underlying t = some .string) (hx : ev fr x = some (.string (bs p))) (hlo : ev fr lo = some (.int ki zi)) (hi' : zi = (i : Int)) (h2 : i ≤ p.length) :
    Yw P n fr (.slice t x (some lo) none none) ty w (.string (bs (p.drop i))) w := fun b o' ho _ ha => by
  subst hi'
  have e2 : (0 : Int) ≤ (i : Int) := by omega
  have e3 := cut_bs p (i := i) (j := (bs p).size) (by rw [bs_size]; exact Nat.le_refl _)
  rw [List.take_of_length_le (by rw [bs_size, List.length_drop]; exact Nat.le_refl _)] at e3
  have e4 : i ≤ (bs p).size := by rw [bs_size]; exact h2
  simp [execOp, ho, ha.ev hx, ha.ev hlo, Instr.sliceAt, Instr.slice, run_underlying hT, Instr.sliceBounds, Instr.sliceBound, asIntOf, e2, e3, e4]
theorem Rep.unput {n : NN} {a : Act} {g : Fr} {d : Nat} {v : Value} (h : Rep n (a.put (some d) v) g) (hd : g.get d = none) : Rep n a g := by
  refine ⟨by simpa [Act.put] using h.size, h.defers, fun t x hx => ?_⟩
  have h1 := h.get t x hx
  have hne : d ≠ t := by rintro rfl; rw [hd] at hx; cases hx
  simpa [Act.put, Array.getElem?_setIfInBounds, hne] using h1
/-- As RH.take, where a panic keeps slots that this operation does not write. -/
theorem RH.takeG {ops : Array Oper} {S : World → Prop} {Φ : Exit → Fr → World → Prop} {fuel : Nat} {listed : Array Bool} (g : Fr) (i : Nat) {d : Nat} {o : Op} {ty : TypeId} {pos : String} {aft : Array Edge} {v : Value}
    (hQ : ∀ c f w, Φ (.panic c) f w → Fr.le g f ∧ Φ (.panic c) g w) (hgd : g.get d = none) (hs : Region.noSelect ops = true) (hS : S w)
    (hi : ops[i]? = some ⟨some d, o, ty, pos, aft, none⟩) (hf : Region.free .any ops listed i = true) (hr : (Region.ready .any ops listed).contains i = true)
    (hy : ∀ w, S w → Yw P n fr o ty w v w) (hd : d < n.1) (h : RH P ops S n Φ fuel (listed.setIfInBounds i true) ((d, v) :: fr) w) : RH P ops S n Φ (fuel + 1) listed fr w := fun a ha =>
  wpAnyH_take hi hs hf hr (fun c a w ⟨f, hf, hp⟩ => ⟨g, (hf.weaken (hQ c f w hp).1).unput hgd, (hQ c f w hp).2⟩)
    (.inl ⟨by simp [Region.wanted], fun w hw => hy w hw a _ rfl rfl ha⟩) hS (h _ (ha.put hd v))
theorem Y.assertN {x : Operand} {t xt : TypeId} {v : Value} {k : IntKind} (hT : P.underlying t = some (.int k)) (hx : ev fr x = some (.iface t v)) : Yw P n fr (.typeAssert x xt t false) ty w v w := fun b o' ho _ ha => by
  simp [execOp, ho, ha.ev hx, Instr.typeAssert, run_underlying hT]
theorem Y.neq_heldP {x y : Operand} {t t' u : TypeId} {v : Value} (h : P.underlying t = some (.interface (P.methodsAt t))) (hx : ev fr x = some (.iface u v)) (hy : ev fr y = some .nilIface) : Yw P n fr (.binOp .neq t x y t') ty w (.bool true) w :=
  Y.bin hx hy (by simp [eqGuard]) (run_neq_held_nil w t u v h)
theorem Y.neq_nilsP {x : Operand} {t t' : TypeId} (h : P.underlying t = some (.interface (P.methodsAt t))) (hx : ev fr x = some .nilIface) : Yw P n fr (.binOp .neq t x (.const .nilIface) t') ty w (.bool false) w :=
  Y.bin hx rfl (by simp [eqGuard]) (run_neq_nil_nil w t h)
end
end Go.Fw
namespace Go.Pl
open Go.Fw
section
variable {b : List UInt8} {ids : List Dig} {l : List (List UInt8)} {ahead s : List UInt8} {depth at_ n a dp : Nat} {d : Dig} {e : Int}
theorem robjs_e (h : robj b ids ahead depth at_ = .error e) : robjs b (n + 1) ids l ahead depth at_ = .error e := by rw [robjs, h]
theorem robjs_s (h : robj b ids ahead depth at_ = .ok ((d, s, dp), a)) : robjs b (n + 1) ids l ahead depth at_ = robjs b n (ids ++ [d]) (l ++ [s]) s dp a := by rw [robjs, h]
theorem rbody_1 (h : gnum b 3 = .error e) : rbody b = .error e := by rw [rbody, h]
theorem rbody_2 (h : gnum b 3 = .ok (n, a)) (hn : 500 < n) : rbody b = .error 4 := by rw [rbody, h]; simp only []; rw [if_pos hn]
theorem rbody_3 (h : gnum b 3 = .ok (n, a)) (hn : ¬ 500 < n) (hr : robjs b n [] [] [] 0 a = .error e) : rbody b = .error e := by rw [rbody, h]; simp only []; rw [if_neg hn, hr]
theorem rbody_4 (h : gnum b 3 = .ok (n, a)) (hn : ¬ 500 < n) (hr : robjs b n [] [] [] 0 a = .ok (l, at_)) (ht : at_ ≠ b.length) : rbody b = .error 7 := by rw [rbody, h]; simp only []; rw [if_neg hn, hr]; simp only []; rw [if_pos ht]
theorem rbody_5 (h : gnum b 3 = .ok (n, a)) (hn : ¬ 500 < n) (hr : robjs b n [] [] [] 0 a = .ok (l, at_)) (ht : at_ = b.length) : rbody b = .ok l := by rw [rbody, h]; simp only []; rw [if_neg hn, hr]; simp only []; rw [if_neg (not_not_intro ht)]
end
section
variable {p : List UInt8}
theorem rdP_1 (h : 1048576 < p.length) : rdP p = .error 3 := by rw [rdP, if_pos h]
variable (h : ¬ 1048576 < p.length)
include h
theorem rdP_2 (h2 : p.length < 3 ∨ p.take 3 ≠ [82, 80, 49]) : rdP p = .error 7 := by rw [rdP, if_neg h, if_pos h2]
variable (h2 : ¬ (p.length < 3 ∨ p.take 3 ≠ [82, 80, 49]))
include h2
theorem rdP_3 (h3 : p.length < 35) : rdP p = .error 8 := by rw [rdP, if_neg h, if_neg h2, if_pos h3]
variable (h3 : ¬ p.length < 35)
include h3
theorem rdP_4 {q : Nat} (hq : q + 32 = p.length) (h4 : (shaD (p.take q)).1 ≠ p.drop q) : rdP p = .error 10 := by
  rw [rdP, if_neg h, if_neg h2, if_neg h3, show p.length - 32 = q from by omega, if_pos h4]
theorem rdP_5 {q : Nat} (hq : q + 32 = p.length) (h4 : (shaD (p.take q)).1 = p.drop q) : rdP p = rbody (p.take q) := by
  rw [rdP, if_neg h, if_neg h2, if_neg h3, show p.length - 32 = q from by omega, if_neg (not_not_intro h4)]
end
theorem robj_len {b : List UInt8} {ids : List Dig} {ahead s : List UInt8} {depth at_ a dp : Nat} {d : Dig} (h : robj b ids ahead depth at_ = .ok ((d, s, dp), a)) (hat : at_ ≤ b.length) (hb : b.length ≤ 1048576) : at_ + 32 ≤ a ∧ a ≤ b.length ∧ s.length ≤ 131072 ∧ dp ≤ 4 := by
  cases hg : gdig b at_ with
  | error e => rw [robj_e1 hg] at h; cases h
  | ok x1 =>
  obtain ⟨d1, a1⟩ := x1
  have h1 : a1 = at_ + 32 ∧ a1 ≤ b.length := by
    unfold gdig at hg
    split at hg
    · injection hg with hg; injection hg with _ hg; omega
    · cases hg
  cases hbh : behind ids d1 with
  | false => rw [robj_e2 hg hbh] at h; cases h
  | true =>
  cases hn : gnum b a1 with
  | error e => rw [robj_e3 hg hbh hn] at h; cases h
  | ok x2 =>
  obtain ⟨k, a2⟩ := x2
  have h2 := gnum_len hn h1.2
  by_cases hk : 1 < k ∨ (k = 1 ∧ ids = [])
  · rw [robj_e4 hg hbh hn hk] at h; cases h
  by_cases hd : 4 < (depth + 1) * k
  · rw [robj_e5 hg hbh hn hk hd] at h; cases h
  cases ht : gtext b a2 with
  | error e => rw [robj_e6 hg hbh hn hk hd ht] at h; cases h
  | ok x3 =>
  obtain ⟨s1, a3⟩ := x3
  have h3 := gtext_len ht h2.2
  have key : ∀ t : List UInt8, t.length ≤ 131072 → ((k = 1 ∧ apB ahead s1 = (t, 0)) ∨ (k ≠ 1 ∧ t = s1)) → at_ + 32 ≤ a ∧ a ≤ b.length ∧ s.length ≤ 131072 ∧ dp ≤ 4 := by
    intro t htl hr
    rw [robj_last hg hbh hn hk hd ht hr] at h
    split at h
    · cases h
    · injection h with h
      obtain ⟨h4, h5⟩ := Prod.mk.inj h
      obtain ⟨_, h6⟩ := Prod.mk.inj h4
      obtain ⟨h7, h8⟩ := Prod.mk.inj h6
      subst h5; subst h7; subst h8
      exact ⟨by omega, h3.2.1, htl, by omega⟩
  by_cases h1 : k = 1
  · by_cases ha : (apB ahead s1).2 = 0
    · exact key (apB ahead s1).1 (by have := apB_len ahead s1; omega) (.inl ⟨h1, Prod.ext rfl ha⟩)
    · rw [robj_e7 hg hbh hn hk hd ht h1 ha] at h; cases h
  · exact key s1 h3.2.2 (.inr ⟨h1, rfl⟩)
end Go.Pl
namespace Go.Proofs.YtoncdfpohdchgaaDoor
open Go.RowKit Go.Fw Go.Pl Go.Sort
abbrev TEr : TypeId := 23
theorem anyP_under : Tryd.prog.underlying 20 = some (.interface (Tryd.prog.methodsAt 20)) := by kernel_rfl
theorem build_preader (A : Option Addr) (m c : Nat) (w : World) : (Instr.build TPk [(0, Value.slice A m c), (1, .int .i64 3)].toArray).run Tryd.prog w = .ok (.agg [Value.slice A m c, .int .i64 3].toArray) w := run_build w _ _ _ (by kernel_rfl)
theorem info_pk : ∃ i : TypeInfo, Tryd.prog.info? TPk = some i ∧ i.zero = some (.agg #[.slice none 0 0, .int .i64 0]) ∧ i.size = 2 := by
  have h : (Tryd.prog.info? TPk).map (fun i => (i.zero, i.size)) = some (some (.agg #[.slice none 0 0, .int .i64 0]), 2) := by kernel_rfl
  obtain ⟨i, hi, h⟩ := Option.map_eq_some_iff.1 h
  obtain ⟨h1, h2⟩ := Prod.mk.inj h
  exact ⟨i, hi, h1, h2⟩
theorem info_ssP : ∃ i : TypeInfo, Tryd.prog.info? TSs = some i ∧ i.zero = some (.slice none 0 0) := by
  have h : (Tryd.prog.info? TSs).map (fun i => i.zero) = some (some (.slice none 0 0)) := by kernel_rfl
  obtain ⟨i, hi, h⟩ := Option.map_eq_some_iff.1 h
  exact ⟨i, hi, h⟩
theorem as_packreader {n : NN} {Φ : Exit → Fr → World → Prop} {fr : Fr} {w : World} {ops : Array Oper} {rest : List Oper} {d : Nat} {x : Operand} {ty ty' : TypeId} {pos pos' : String} {aft aft' : Array Edge} {A : Option Addr} {m c : Nat} {p : Int}
    (hx : ev fr x = some (.agg [Value.slice A m c, .int .i64 p].toArray)) (hxd : x ≠ .tmp d) (hd : d < n.1)
    (h : ∀ g w', Ext w w' → w.heap.size ≤ g → Blk w' g TPk [Value.slice A m c, .int .i64 p] → WL Tryd.prog ops n Φ rest ((d, .pointer (some ⟨g, 0, none⟩)) :: fr) w') :
    WL Tryd.prog ops n Φ (⟨some d, .alloc TPk, ty, pos, aft, none⟩ :: ⟨none, .store TPk (.tmp d) x, ty', pos', aft', none⟩ :: rest) fr w := by
  obtain ⟨i, hi, hz, hs⟩ := info_pk
  exact WL.allocStore (zs := [.slice none 0 0, .int .i64 0]) (cs := [Value.slice A m c, .int .i64 p]) hi hz rfl (by rw [hs]; rfl) rfl hx hxd rfl (by intro u hu; simp at hu; rcases hu with rfl | rfl <;> rfl) hd h
@[reducible] def DoneH (g : Fr) (D : Fr → World → Prop) (S : List PanicEntry → World → Prop) : Exit → Fr → World → Prop
  | .normal, fr, w => D fr w
  | .ret, fr, w => D fr w
  | .panic ch, fr, w => Fr.le g fr ∧ S ch w
  | _, _, _ => False
/-- Read's body was given up. -/
abbrev RdG (p : List UInt8) (gl ge : Nat) (w : World) (ch : List PanicEntry) (w' : World) : Prop := ∃ e, rdP p = .error e ∧ ch = pan e ∧ Chg (fun k => k = gl ∨ k = ge) w w' ∧ (∃ x, Blk w' gl TSs [x]) ∧ Blk w' ge TEr [.int .i64 0]
/-- Read's body came to its end. -/
abbrev RdD (p : List UInt8) (gl ge : Nat) (w : World) (f : Fr) (w' : World) : Prop := Fr.le [(2, .pointer (some ⟨gl, 0, none⟩)), (3, .pointer (some ⟨ge, 0, none⟩))] f ∧ ∃ l lv, rdP p = .ok l ∧ Blk w' gl TSs [lv] ∧ Own w' TStr 1 lv (flatS l) ∧ (∀ k, lv.ownBlock = some k → w.heap.size ≤ k) ∧ Blk w' ge TEr [.int .i64 0] ∧ Chg (fun k => k = gl ∨ k = ge) w w'
structure RdI where
  i : Nat
  ids : List Dig
  l : List (List UInt8)
  ah : List UInt8
  dp : Nat
  at_ : Nat
  uv : Value
  lv : Value
/-- Where a round of Read stands. -/
structure RdAt (V : World) (W gl ge g5 : Nat) (bv : Value) (b : List UInt8) (n a1 : Nat) (s : RdI) : Prop where
  le : s.i ≤ n
  run : robjs b (n - s.i) s.ids s.l s.ah s.dp s.at_ = robjs b n [] [] [] 0 a1
  B5 : Blk V g5 TPk [bv, .int .i64 (s.at_ : Int)]
  hat : s.at_ ≤ b.length
  ids : Own V TDg 32 s.uv (flatD s.ids)
  idw : ∀ k, s.uv.ownBlock = some k → W ≤ k ∧ s.lv.ownBlock ≠ some k
  G : Blk V gl TSs [s.lv]
  L : Own V TStr 1 s.lv (flatS s.l)
  lw : ∀ k, s.lv.ownBlock = some k → W ≤ k
  H : Blk V ge TEr [.int .i64 0]
  ni : s.ids.length = s.i
  nl : s.l.length = s.i
  ah : s.ah.length ≤ 140737488351232
  dp : s.dp ≤ 4
  hb : By V bv b
  hw : W ≤ V.heap.size
/-- What Read hands back. -/
def RdAns (p : List UInt8) (w : World) (v : Value) (w' : World) : Prop := ∃ lv, Ext w w' ∧ (∀ k, lv.ownBlock = some k → w.heap.size ≤ k) ∧ ((∃ l, rdP p = .ok l ∧ v = .tuple #[lv, .int .i64 0] ∧ Own w' TStr 1 lv (flatS l)) ∨ (∃ e, rdP p = .error e ∧ v = .tuple #[lv, .int .i64 e] ∧ lv = .slice none 0 0))
theorem rd_res {gl ge : Nat} {a : Act} {n : NN} {fr : Fr} {w : World} {lv v : Value} (hr : Rep n a fr) (h2 : fr.get 2 = some (.pointer (some ⟨gl, 0, none⟩))) (h3 : fr.get 3 = some (.pointer (some ⟨ge, 0, none⟩))) (hG : Blk w gl TSs [lv]) (hH : Blk w ge TEr [v]) :
    (results Tryd.f11 a.tmps).run Tryd.prog w = .ok (.tuple #[lv, v]) w := by
  have e2 := hr.get 2 _ h2
  have e3 := hr.get 3 _ h3
  have l1 := run_loadVar1 (P := Tryd.prog) (w := w) (a := ⟨gl, 0, none⟩) (v := lv) Tryd.underlying22 rfl hG.mem.cell0
  have l2 := run_loadVar1 (P := Tryd.prog) (w := w) (a := ⟨ge, 0, none⟩) (v := v) Tryd.underlying23 rfl hH.mem.cell0
  simp [results, Tryd.results11, e2, e3, asAddr, l1, l2]
theorem rcatch_idle (pc pe : Value) (w : World) :
    CallsD Tryd.prog 27 #[pc, pe] .returning w fun r u' w' => r = .returned (.tuple #[]) ∧ u' = .returning ∧ w' = w := by
  refine callsD_of_wpS Tryd.func27 rfl fun c₀ ks hu => ?_
  apply wpS_seq
  apply wpS_region
  simp [wpOpsS, go_sem, recoverD, hu, Tryd.ntmps27, Exit.thenS]
  refine wpS_of_wp (CW.wp (n := (8, [], none)) (fr := [(0, pc), (1, pe), (2, .nilIface)]) (Φ := DoneG (fun _ w' => w' = w) (fun _ _ => False)) ?_ ?_ ?_)
  · refine CW.seq fun K1 hK1 => ?_
    refine CW.region ?_
    refine WL.val (Y.move rfl) (by decide) ?_
    refine WL.val (Y.neq_nilsP anyP_under rfl) (by decide) ?_
    refine WL.nil ?_
    refine hK1 _ _ ?_
    refine CW.condF rfl ?_
    exact CW.skip rfl
  · refine ⟨by simp, rfl, fun t v h => ?_⟩
    have h := args3 t v h
    match t, h with
    | 0, h => simpa using h
    | 1, h => simpa using h
    | 2, h => simpa using h
    | t + 3, h => simp at h
  · intro e' f a' w' hr hp
    have hc : ({ c₀ with mode := .returning } : Frame) = c₀ := by subst_vars; cases c₀; simp_all
    cases e' with
    | normal => exact ⟨hr.defers, .returning, by rw [hc], _, run_results (ts := []) hr rfl rfl w', rfl, rfl, hp⟩
    | ret => exact ⟨hr.defers, .returning, by rw [hc], _, run_results (ts := []) hr rfl rfl w', rfl, rfl, hp⟩
    | exit id => exact hp.elim
    | goto l => exact hp.elim
    | panic ch => exact hp.elim
    | outgrown => exact hp.elim

theorem rcatch_pan (gl ge : Nat) (v0 v1 : Value) (e : Int) (older : List PanicEntry) (w : World) (hG : Blk w gl TSs [v0]) (hH : Blk w ge TEr [v1]) (hne : gl ≠ ge) :
    CallsD Tryd.prog 27 #[.pointer (some ⟨gl, 0, none⟩), .pointer (some ⟨ge, 0, none⟩)] (.panicking ({ v := .iface TEr (.int .i64 e), recovered := false } :: older)) w fun r u' w' =>
      r = .returned (.tuple #[]) ∧ u' = .panicking ({ v := .iface TEr (.int .i64 e), recovered := true } :: older) ∧ Chg (fun k => k = gl ∨ k = ge) w w' ∧ Blk w' gl TSs [.slice none 0 0] ∧ Blk w' ge TEr [.int .i64 e] := by
  refine callsD_of_wpS Tryd.func27 rfl fun c₀ ks hu => ?_
  apply wpS_seq
  apply wpS_region
  simp [wpOpsS, go_sem, recoverD, hu, Tryd.ntmps27, Exit.thenS]
  refine wpS_of_wp (CW.wp (n := (8, [], none)) (fr := [(0, .pointer (some ⟨gl, 0, none⟩)), (1, .pointer (some ⟨ge, 0, none⟩)), (2, .iface TEr (.int .i64 e))]) (Φ := DoneG (fun _ w' => Chg (fun k => k = gl ∨ k = ge) w w' ∧ Blk w' gl TSs [.slice none 0 0] ∧ Blk w' ge TEr [.int .i64 e]) (fun _ _ => False)) ?_ ?_ ?_)
  · skip
    refine CW.seq fun K1 hK1 => ?_
    refine CW.region ?_   -- region 1
    refine WL.val (Y.move rfl) (by first | decide | exact Nat.le_of_ble_eq_true rfl) ?_   -- t4 := move t2
    refine WL.val (Y.neq_heldP anyP_under rfl rfl) (by first | decide | exact Nat.le_of_ble_eq_true rfl) ?_   -- t5 := binOp neq 20 t4 c(Value.nilIface) 20
    refine WL.nil ?_
    refine hK1 _ _ ?_; try clear hK1 K1
    refine CW.condT rfl ?_
    · -- then
      refine CW.held (fun wq => Chg (fun k => k = gl ∨ k = ge) w wq) (by kernel_rfl) 4 rfl fun w1 hx1 => ?_
      have hS : Chg (fun k => k = gl ∨ k = ge) w w1 := hx1.chg
      have hG1 := hG.ext hx1
      have hH1 := hH.ext hx1
      refine RH.take 0 (fun _ _ _ _ h => h) (by kernel_rfl) hS rfl (by kernel_rfl) (by kernel_rfl) (fun wq hq => Y.move rfl) (by first | decide | exact Nat.le_of_ble_eq_true rfl) ?_   -- t6 := move t2
      refine RH.take 1 (fun _ _ _ _ h => h) (by kernel_rfl) hS rfl (by kernel_rfl) (by kernel_rfl) (fun wq hq => Y.assertN Tryd.underlying23 rfl) (by first | decide | exact Nat.le_of_ble_eq_true rfl) ?_   -- t7 := typeAssert t6 20 23 false
      refine RH.one 2 (by kernel_rfl) ?_
      refine RS.store rfl (g := gl) (pre := []) (old := [v0]) (post := []) (new := [.slice none 0 0]) rfl rfl rfl rfl (by kernel_rfl) (by simpa using hG1) rfl (one1 rfl) (fun w2 hc2 hB2_ => ?_)   -- store 22 t0 c(nilslice)
      have hS := hS.trans hc2 (fun k _ h => .inl h)
      have hG2 : Blk w2 gl TSs [.slice none 0 0] := by simpa using hB2_
      have hH2 := hH1.chg hc2 (fun h => by have h : ge = gl := h; omega)
      refine ⟨hS, ?_⟩
      refine RH.one 3 (by kernel_rfl) ?_
      refine RS.store rfl (g := ge) (pre := []) (old := [v1]) (post := []) (new := [.int .i64 e]) rfl rfl rfl rfl (by kernel_rfl) (by simpa using hH2) rfl (one1 rfl) (fun w3 hc3 hB3_ => ?_)   -- store 23 t1 t7
      have hS := hS.trans hc3 (fun k _ h => .inr h)
      have hH3 : Blk w3 ge TEr [.int .i64 e] := by simpa using hB3_
      have hG3 := hG2.chg hc3 (fun h => by have h : gl = ge := h; omega)
      refine ⟨hS, ?_⟩
      refine RH.done (by kernel_rfl) ?_
      skip
      exact ⟨hS, hG3, hH3⟩
  · refine ⟨by simp, rfl, fun t v h => ?_⟩
    have h := args3 t v h
    match t, h with
    | 0, h => simpa using h
    | 1, h => simpa using h
    | 2, h => simpa using h
    | t + 3, h => simp at h
  · intro e' f a' w' hr hp
    cases e' with
    | normal => exact ⟨hr.defers, _, rfl, _, run_results (ts := []) hr rfl rfl w', rfl, rfl, hp⟩
    | ret => exact ⟨hr.defers, _, rfl, _, run_results (ts := []) hr rfl rfl w', rfl, rfl, hp⟩
    | exit id => exact hp.elim
    | goto l => exact hp.elim
    | panic ch => exact hp.elim
    | outgrown => exact hp.elim
set_option maxRecDepth 100000 in
set_option maxHeartbeats 4000000 in
theorem pread_any (p : List UInt8) (w00 : World) (hK0 : Mem w00 ⟨0, 0, none⟩ (wds keysL)) : Calls Tryd.prog 11 #[.string (bs p)] w00 (Ret (RdAns p w00)) := by
  obtain ⟨il, hil, hzl⟩ := info_ssP
  obtain ⟨ie, hie, hze⟩ := info_errW
  obtain ⟨id, hid, hzd, _⟩ := info_apiDigest
  have hk00 : (0 : Nat) < w00.heap.size := hK0.lt (fun h => by cases h)
  have hsz := bs_size p
  refine calls_of_wp_defers Tryd.func11 rfl ?_
  have ha : Rep (79, [], none) { tmps := #[Value.string (bs p)] ++ Array.replicate (Tryd.f11.ntmps - #[Value.string (bs p)].size) undef, defers := [] } [(0, .string (bs p))] := by
    refine ⟨by simp [Tryd.ntmps11], rfl, fun t v h => ?_⟩
    have h := args1 t v h
    match t, h with
    | 0, h => simpa using h
    | t + 1, h => simp at h
  generalize ({ tmps := #[Value.string (bs p)] ++ Array.replicate (Tryd.f11.ntmps - #[Value.string (bs p)].size) undef, defers := [] } : Act) = a0 at ha ⊢
  refine wp_seq (CW.wp (Φ := fun e f w' => e = .normal ∧ ∃ gl ge, Fr.le [(0, .string (bs p)), (2, .pointer (some ⟨gl, 0, none⟩)), (3, .pointer (some ⟨ge, 0, none⟩))] f ∧ Ext w00 w' ∧ w00.heap.size ≤ gl ∧ gl < ge ∧ Blk w' gl TSs [.slice none 0 0] ∧ Blk w' ge TEr [.int .i64 0]) ?_ ha ?_)
  · refine CW.region ?_
    refine WL.alloc hil hzl rfl (by first | decide | exact Nat.le_of_ble_eq_true rfl) fun gl w1 hx1 hg1 hB1 => ?_
    refine WL.alloc hie hze rfl (by first | decide | exact Nat.le_of_ble_eq_true rfl) fun ge w2 hx2 hg2 hB2 => ?_
    refine WL.nil ?_
    exact ⟨rfl, gl, ge, (by repeat (first | exact Fr.le.nil | refine Fr.le.cons rfl ?_)), hx1.thenExt hx2, hg1, Nat.lt_of_lt_of_le hB1.lt hg2, hB1.ext hx2, hB2⟩
  rintro e f a1_ w hr ⟨rfl, gl, ge, hle, hx0, hg1, hlg, hG, hH⟩
  have hr := hr.weaken hle
  have hgl0 : 0 < gl := by omega
  have hK := hK0.ext hx0
  have hz0 := hx0.size
  have hGl := hG.lt
  have hHl := hH.lt
  show Code.wp _ _ _ _ _
  refine wp_defer hr rfl (by first | decide | exact Nat.le_of_ble_eq_true rfl) fun a3_ hr3 => ?_
  refine CW.wp (Φ := DoneH [(2, .pointer (some ⟨gl, 0, none⟩)), (3, .pointer (some ⟨ge, 0, none⟩))] (RdD p gl ge w) (RdG p gl ge w)) ?_ hr3 ?_
  · have hE : Chg (fun k => k = gl ∨ k = ge) w w := Chg.refl
    refine CW.seq fun K1 hK1 => ?_
    refine CW.region ?_   -- region 2
    refine WL.val (Y.move rfl) (by first | decide | exact Nat.le_of_ble_eq_true rfl) ?_   -- t12 := move t0
    refine WL.val (Y.len_string Tryd.underlying9 rfl) (by first | decide | exact Nat.le_of_ble_eq_true rfl) ?_   -- t13 := call len(t12) : 9
    refine WL.val (Y.gtr rfl rfl) (by first | decide | exact Nat.le_of_ble_eq_true rfl) ?_   -- t14 := binOp gtr 3 t13 c(1048576:i64) 3
    refine WL.callOr Tryd.func28 rfl rfl rfl (prefuse_any _ _ _) (by simp) (fun ch w1 hP1 => ?_) ?_   -- t15 := call F28(t14, c(3:i64)) : 4,23
    · skip
      obtain ⟨h1, rfl, hx⟩ := hP1
      exact (show Fr.le _ _ ∧ RdG p gl ge w _ _ from ⟨(by repeat (first | exact Fr.le.nil | refine Fr.le.cons rfl ?_)), 3, rdP_1 (by have := of_decide_eq_true h1; omega), rfl, hE.thenExt hx, ⟨_, hG.ext hx⟩, hH.ext hx⟩)
    rintro v15 w1 hR1
    obtain ⟨h1, rfl, hx1⟩ := hR1
    have hz1 := hx1.size
    have hE := hE.thenExt hx1
    have hK := hK.ext hx1
    have hG := hG.ext hx1
    have hH := hH.ext hx1
    have hn1 : ¬ 1048576 < p.length := by have := of_decide_eq_false h1; omega
    refine WL.nil ?_
    refine hK1 _ _ ?_; try clear hK1 K1
    refine CW.seq_to (X := Unit) (fun _ => [(0, .string (bs p)), (2, .pointer (some ⟨gl, 0, none⟩)), (3, .pointer (some ⟨ge, 0, none⟩))]) (fun _ w0 => ¬ (p.length < 3 ∨ p.take 3 ≠ [82, 80, 49]) ∧ Ext w1 w0) ?_ ?_
    · skip
      refine CW.region ?_   -- region 3
      refine WL.val (Y.move rfl) (by first | decide | exact Nat.le_of_ble_eq_true rfl) ?_   -- t16 := move t0
      refine WL.val (Y.len_string Tryd.underlying9 rfl) (by first | decide | exact Nat.le_of_ble_eq_true rfl) ?_   -- t17 := call len(t16) : 9
      refine WL.val (Y.lss rfl rfl) (by first | decide | exact Nat.le_of_ble_eq_true rfl) ?_   -- t18 := binOp lss 3 t17 c(3:i64) 3
      refine WL.val (Y.move rfl) (by first | decide | exact Nat.le_of_ble_eq_true rfl) ?_   -- t19 := move t18
      first | refine WL.casesD (d := 19) rfl (fun hg19 => ?_) (fun hg19 => ?_) | refine WL.casesND (d := 19) rfl (fun hg19 => ?_) (fun hg19 => ?_) | refine WL.cases (d := 19) rfl (fun hg19 => ?_) (fun hg19 => ?_)
      · -- t19 = T
        refine WL.goff rfl rfl (by first | decide | exact Nat.le_of_ble_eq_true rfl) ?_   -- t20 := move t0 [if 3=false]
        refine WL.goff rfl rfl (by first | decide | exact Nat.le_of_ble_eq_true rfl) ?_   -- t21 := slice 9 t20 none c(3:i64) none [if 3=false]
        refine WL.goff rfl rfl (by first | decide | exact Nat.le_of_ble_eq_true rfl) ?_   -- t22 := binOp neq 9 t21 c(STR) 9 [if 3=false]
        refine WL.val (Y.pick rfl rfl) (by first | decide | exact Nat.le_of_ble_eq_true rfl) ?_   -- t23 := pick t19 c(true) t22
        refine WL.callOr Tryd.func28 rfl rfl rfl (prefuse_any _ _ _) (by simp) (fun ch w2 hP2 => ?_) ?_   -- t24 := call F28(t23, c(7:i64)) : 4,23
        · skip
          obtain ⟨h1, rfl, hx⟩ := hP2
          exact (show Fr.le _ _ ∧ RdG p gl ge w _ _ from ⟨(by repeat (first | exact Fr.le.nil | refine Fr.le.cons rfl ?_)), 7, rdP_2 hn1 (.inl (by omega)), rfl, hE.thenExt hx, ⟨_, hG.ext hx⟩, hH.ext hx⟩)
        rintro v24 w2 hR2
        obtain ⟨h1, rfl, hx2⟩ := hR2
        refine WL.nil ?_
        exact absurd h1 (by simp)
      · -- t19 = F
        refine WL.gval rfl rfl (Y.move rfl) (by first | decide | exact Nat.le_of_ble_eq_true rfl) ?_   -- t20 := move t0 [if 3=false]
        refine WL.gval rfl rfl (Y.strHead (j := 3) Tryd.underlying9 rfl rfl (by omega) (by omega)) (by first | decide | exact Nat.le_of_ble_eq_true rfl) ?_   -- t21 := slice 9 t20 none c(3:i64) none [if 3=false]
        refine WL.gval rfl rfl (Y.neq_string rfl rfl) (by first | decide | exact Nat.le_of_ble_eq_true rfl) ?_   -- t22 := binOp neq 9 t21 c(STR) 9 [if 3=false]
        refine WL.val (Y.pick rfl rfl) (by first | decide | exact Nat.le_of_ble_eq_true rfl) ?_   -- t23 := pick t19 c(true) t22
        refine WL.callOr Tryd.func28 rfl rfl rfl (prefuse_any _ _ _) (by simp) (fun ch w3 hP3 => ?_) ?_   -- t24 := call F28(t23, c(7:i64)) : 4,23
        · skip
          obtain ⟨h1, rfl, hx⟩ := hP3
          exact (show Fr.le _ _ ∧ RdG p gl ge w _ _ from ⟨(by repeat (first | exact Fr.le.nil | refine Fr.le.cons rfl ?_)), 7, rdP_2 hn1 (.inr (by simpa [bs_toList] using h1)), rfl, hE.thenExt hx, ⟨_, hG.ext hx⟩, hH.ext hx⟩)
        rintro v24 w3 hR3
        obtain ⟨h1, rfl, hx3⟩ := hR3
        refine WL.nil ?_
        exact ⟨(), (by repeat (first | exact Fr.le.nil | refine Fr.le.cons rfl ?_)), by rintro (h | h); omega; exact h (by simpa [bs_toList] using h1), hx3⟩
    rintro u w4 hj4
    obtain ⟨hn2, hx4⟩ := hj4
    have hz4 := hx4.size
    have hE := hE.thenExt hx4
    have hK := hK.ext hx4
    have hG := hG.ext hx4
    have hH := hH.ext hx4
    refine CW.seq fun K2 hK2 => ?_
    refine CW.region ?_   -- region 4
    refine WL.val (Y.move rfl) (by first | decide | exact Nat.le_of_ble_eq_true rfl) ?_   -- t25 := move t0
    refine WL.val (Y.len_string Tryd.underlying9 rfl) (by first | decide | exact Nat.le_of_ble_eq_true rfl) ?_   -- t26 := call len(t25) : 9
    refine WL.val (Y.sub rfl rfl ⟨by omega, by omega⟩) (by first | decide | exact Nat.le_of_ble_eq_true rfl) ?_   -- t27 := binOp sub 3 t26 c(32:i64) 3
    refine WL.val (Y.assign rfl) (by first | decide | exact Nat.le_of_ble_eq_true rfl) ?_   -- t4 := assign t27
    refine WL.nil ?_
    refine hK2 _ _ ?_; try clear hK2 K2
    refine CW.seq fun K3 hK3 => ?_
    refine CW.region ?_   -- region 5
    refine WL.val (Y.move rfl) (by first | decide | exact Nat.le_of_ble_eq_true rfl) ?_   -- t28 := move t4
    refine WL.val (Y.lss rfl rfl) (by first | decide | exact Nat.le_of_ble_eq_true rfl) ?_   -- t29 := binOp lss 3 t28 c(3:i64) 3
    refine WL.callOr Tryd.func28 rfl rfl rfl (prefuse_any _ _ _) (by simp) (fun ch w5 hP5 => ?_) ?_   -- t30 := call F28(t29, c(8:i64)) : 4,23
    · skip
      obtain ⟨h1, rfl, hx⟩ := hP5
      exact (show Fr.le _ _ ∧ RdG p gl ge w _ _ from ⟨(by repeat (first | exact Fr.le.nil | refine Fr.le.cons rfl ?_)), 8, rdP_3 hn1 hn2 (by have := of_decide_eq_true h1; omega), rfl, hE.thenExt hx, ⟨_, hG.ext hx⟩, hH.ext hx⟩)
    rintro v30 w5 hR5
    obtain ⟨h1, rfl, hx5⟩ := hR5
    have hz5 := hx5.size
    have hE := hE.thenExt hx5
    have hK := hK.ext hx5
    have hG := hG.ext hx5
    have hH := hH.ext hx5
    have hn3 : ¬ p.length < 35 := by have := of_decide_eq_false h1; omega
    obtain ⟨q, hq⟩ : ∃ q : Nat, q + 32 = p.length := ⟨p.length - 32, by omega⟩
    rw [show ((bs p).size : Int) - 32 = (q : Int) from by omega]
    have hlen : (p.drop q).length = 32 := by rw [List.length_drop]; omega
    have hlt : (p.take q).length = q := by rw [List.length_take]; omega
    obtain ⟨dd, hdd⟩ : ∃ dd : Dig, dd = ⟨p.drop q, hlen⟩ := ⟨_, rfl⟩
    refine WL.nil ?_
    refine hK3 _ _ ?_; try clear hK3 K3
    refine CW.seq_to (X := Unit) (fun _ => [(0, .string (bs p)), (2, .pointer (some ⟨gl, 0, none⟩)), (3, .pointer (some ⟨ge, 0, none⟩)), (4, .int .i64 (q : Int))]) (fun _ w0 => (shaD (p.take q)).1 = p.drop q ∧ Ext w5 w0) ?_ ?_
    · skip
      refine CW.held (fun wq => Ext w5 wq) (by kernel_rfl) 13 rfl fun w6 hS => ?_
      refine RH.takeG [(2, .pointer (some ⟨gl, 0, none⟩)), (3, .pointer (some ⟨ge, 0, none⟩))] 0 (fun _ _ _ h => ⟨h.1, (fun _ _ h => h), h.2⟩) rfl (by kernel_rfl) hS rfl (by kernel_rfl) (by kernel_rfl) (fun wq hq => Y.move rfl) (by first | decide | exact Nat.le_of_ble_eq_true rfl) ?_   -- t31 := move t0
      refine RH.takeG [(2, .pointer (some ⟨gl, 0, none⟩)), (3, .pointer (some ⟨ge, 0, none⟩))] 1 (fun _ _ _ h => ⟨h.1, (fun _ _ h => h), h.2⟩) rfl (by kernel_rfl) hS rfl (by kernel_rfl) (by kernel_rfl) (fun wq hq => Y.move rfl) (by first | decide | exact Nat.le_of_ble_eq_true rfl) ?_   -- t32 := move t4
      refine RH.takeG [(2, .pointer (some ⟨gl, 0, none⟩)), (3, .pointer (some ⟨ge, 0, none⟩))] 2 (fun _ _ _ h => ⟨h.1, (fun _ _ h => h), h.2⟩) rfl (by kernel_rfl) hS rfl (by kernel_rfl) (by kernel_rfl) (fun wq hq => Y.strHead (j := q) Tryd.underlying9 rfl rfl (by omega) (by omega)) (by first | decide | exact Nat.le_of_ble_eq_true rfl) ?_   -- t33 := slice 9 t31 none t32 none
      refine RH.takeG [(2, .pointer (some ⟨gl, 0, none⟩)), (3, .pointer (some ⟨ge, 0, none⟩))] 5 (fun _ _ _ h => ⟨h.1, (fun _ _ h => h), h.2⟩) rfl (by kernel_rfl) hS rfl (by kernel_rfl) (by kernel_rfl) (fun wq hq => Y.move rfl) (by first | decide | exact Nat.le_of_ble_eq_true rfl) ?_   -- t36 := move t0
      refine RH.takeG [(2, .pointer (some ⟨gl, 0, none⟩)), (3, .pointer (some ⟨ge, 0, none⟩))] 6 (fun _ _ _ h => ⟨h.1, (fun _ _ h => h), h.2⟩) rfl (by kernel_rfl) hS rfl (by kernel_rfl) (by kernel_rfl) (fun wq hq => Y.move rfl) (by first | decide | exact Nat.le_of_ble_eq_true rfl) ?_   -- t37 := move t4
      refine RH.takeG [(2, .pointer (some ⟨gl, 0, none⟩)), (3, .pointer (some ⟨ge, 0, none⟩))] 7 (fun _ _ _ h => ⟨h.1, (fun _ _ h => h), h.2⟩) rfl (by kernel_rfl) hS rfl (by kernel_rfl) (by kernel_rfl) (fun wq hq => Y.strTail (i := q) Tryd.underlying9 rfl rfl (by omega) (by omega)) (by first | decide | exact Nat.le_of_ble_eq_true rfl) ?_   -- t38 := slice 9 t36 t37 none none
      refine RH.two 3 8 (by kernel_rfl) ?_ ?_
      · skip
        refine RS.st rfl (St.strBytes Tryd.underlying9 Tryd.underlying33 Tryd.underlying5 rfl (by rw [bs_size]; rw [List.length_take]; omega)) (by first | decide | exact Nat.le_of_ble_eq_true rfl) fun v34 w7 hR7 => ?_   -- convert 9 33 t33
        obtain ⟨hO34, hx7, hf34⟩ := hR7
        rw [bs_toList] at hO34
        have hS := hS.thenExt hx7
        try have hm39 := hm39.ext hx7
        refine ⟨hS, ?_⟩
        refine RH.two 4 8 (by kernel_rfl) ?_ ?_
        · skip
          refine RS.call rfl (fun _ _ h => by cases h) Tryd.func12 rfl rfl rfl (sum_any _ (p.take q) _ hO34.by (fun _ k hk => hO34.lt k hk) (hK.ext hS) (by rw [List.length_take]; omega)) (by first | decide | exact Nat.le_of_ble_eq_true rfl) fun v35 w8 hR8 => ?_   -- call F12(t34) : 33
          obtain ⟨rfl, hx8⟩ := hR8
          have hS := hS.thenExt hx8
          try have hm39 := hm39.ext hx8
          refine ⟨hS, ?_⟩
          refine RH.one 8 (by kernel_rfl) ?_
          refine RS.st rfl (St.strBytes Tryd.underlying9 Tryd.underlying33 Tryd.underlying5 rfl (by rw [bs_size]; omega)) (by first | decide | exact Nat.le_of_ble_eq_true rfl) fun v39 w9 hR9 => ?_   -- convert 9 33 t38
          obtain ⟨hO39, hx9, hf39⟩ := hR9
          rw [bs_toList] at hO39
          obtain ⟨A39, m39, c39, rfl⟩ := hO39.lens
          obtain ⟨hl39, hc39, hcm39⟩ := hO39.by.len
          obtain ⟨a39, rfl, hm39⟩ := hO39.by.mem.1 (by omega)
          have hm39 : Mem w9 a39 (digC dd) := by rw [hdd]; exact hm39
          have hS := hS.thenExt hx9
          try have hO34 := hO34.ext hx9
          refine ⟨hS, ?_⟩
          refine RH.takeG [(2, .pointer (some ⟨gl, 0, none⟩)), (3, .pointer (some ⟨ge, 0, none⟩))] 9 (fun _ _ _ h => ⟨h.1, (fun _ _ h => h), h.2⟩) rfl (by kernel_rfl) hS rfl (by kernel_rfl) (by kernel_rfl) (fun wq hq => Y.toArr Tryd.underlying31 rfl (by omega)) (by first | decide | exact Nat.le_of_ble_eq_true rfl) ?_   -- t40 := sliceToArrayPointer 31 t39
          refine RH.one 10 (by kernel_rfl) ?_
          refine RS.val rfl (Y.load Tryd.underlying31 rfl hm39 (sz_apiDigest _) rfl) (by first | decide | exact Nat.le_of_ble_eq_true rfl) ⟨hS, ?_⟩   -- t41 := load 31 t40
          refine RH.takeG [(2, .pointer (some ⟨gl, 0, none⟩)), (3, .pointer (some ⟨ge, 0, none⟩))] 11 (fun _ _ _ h => ⟨h.1, (fun _ _ h => h), h.2⟩) rfl (by kernel_rfl) hS rfl (by kernel_rfl) (by kernel_rfl) (fun wq hq => Y.neq_apiDigest rfl rfl) (by first | decide | exact Nat.le_of_ble_eq_true rfl) ?_   -- t42 := binOp neq 31 t35 t41 31
          refine RH.one 12 (by kernel_rfl) ?_
          refine RS.callOr rfl Tryd.func28 rfl rfl rfl (prefuse_any _ _ _) (by simp) (fun ch w10 hP10 => ?_) ?_   -- call F28(t42, c(10:i64)) : 4,23
          · skip
            obtain ⟨h1, rfl, hx⟩ := hP10
            exact (show Fr.le _ _ ∧ RdG p gl ge w _ _ from ⟨(by repeat (first | exact Fr.le.nil | refine Fr.le.cons rfl ?_)), 10, rdP_4 hn1 hn2 hn3 hq (fun h => (by simpa using h1 : shaD (p.take q) ≠ dd) (Subtype.ext (by rw [h, hdd]))), rfl, (hE.thenExt hS).thenExt hx, ⟨_, (hG.ext hS).ext hx⟩, (hH.ext hS).ext hx⟩)
          rintro v43 w10 hR10
          obtain ⟨h1, rfl, hx10⟩ := hR10
          have hS := hS.thenExt hx10
          refine ⟨hS, ?_⟩
          refine RH.done (by kernel_rfl) ?_
          have hx11 := hS; have hz11 := hx11.size; have hE := hE.thenExt hx11; have hK := hK.ext hx11
          exact ⟨(), (by repeat (first | exact Fr.le.nil | refine Fr.le.cons rfl ?_)), by rw [(by simpa using h1 : shaD (p.take q) = dd), hdd], hx11⟩
        · skip
          refine RS.st rfl (St.strBytes Tryd.underlying9 Tryd.underlying33 Tryd.underlying5 rfl (by rw [bs_size]; omega)) (by first | decide | exact Nat.le_of_ble_eq_true rfl) fun v39 w12 hR12 => ?_   -- convert 9 33 t38
          obtain ⟨hO39, hx12, hf39⟩ := hR12
          rw [bs_toList] at hO39
          obtain ⟨A39, m39, c39, rfl⟩ := hO39.lens
          obtain ⟨hl39, hc39, hcm39⟩ := hO39.by.len
          obtain ⟨a39, rfl, hm39⟩ := hO39.by.mem.1 (by omega)
          have hm39 : Mem w12 a39 (digC dd) := by rw [hdd]; exact hm39
          have hS := hS.thenExt hx12
          try have hO34 := hO34.ext hx12
          refine ⟨hS, ?_⟩
          refine RH.takeG [(2, .pointer (some ⟨gl, 0, none⟩)), (3, .pointer (some ⟨ge, 0, none⟩))] 9 (fun _ _ _ h => ⟨h.1, (fun _ _ h => h), h.2⟩) rfl (by kernel_rfl) hS rfl (by kernel_rfl) (by kernel_rfl) (fun wq hq => Y.toArr Tryd.underlying31 rfl (by omega)) (by first | decide | exact Nat.le_of_ble_eq_true rfl) ?_   -- t40 := sliceToArrayPointer 31 t39
          refine RH.two 4 10 (by kernel_rfl) ?_ ?_
          · skip
            refine RS.call rfl (fun _ _ h => by cases h) Tryd.func12 rfl rfl rfl (sum_any _ (p.take q) _ hO34.by (fun _ k hk => hO34.lt k hk) (hK.ext hS) (by rw [List.length_take]; omega)) (by first | decide | exact Nat.le_of_ble_eq_true rfl) fun v35 w13 hR13 => ?_   -- call F12(t34) : 33
            obtain ⟨rfl, hx13⟩ := hR13
            have hS := hS.thenExt hx13
            try have hm39 := hm39.ext hx13
            refine ⟨hS, ?_⟩
            refine RH.one 10 (by kernel_rfl) ?_
            refine RS.val rfl (Y.load Tryd.underlying31 rfl hm39 (sz_apiDigest _) rfl) (by first | decide | exact Nat.le_of_ble_eq_true rfl) ⟨hS, ?_⟩   -- t41 := load 31 t40
            refine RH.takeG [(2, .pointer (some ⟨gl, 0, none⟩)), (3, .pointer (some ⟨ge, 0, none⟩))] 11 (fun _ _ _ h => ⟨h.1, (fun _ _ h => h), h.2⟩) rfl (by kernel_rfl) hS rfl (by kernel_rfl) (by kernel_rfl) (fun wq hq => Y.neq_apiDigest rfl rfl) (by first | decide | exact Nat.le_of_ble_eq_true rfl) ?_   -- t42 := binOp neq 31 t35 t41 31
            refine RH.one 12 (by kernel_rfl) ?_
            refine RS.callOr rfl Tryd.func28 rfl rfl rfl (prefuse_any _ _ _) (by simp) (fun ch w14 hP14 => ?_) ?_   -- call F28(t42, c(10:i64)) : 4,23
            · skip
              obtain ⟨h1, rfl, hx⟩ := hP14
              exact (show Fr.le _ _ ∧ RdG p gl ge w _ _ from ⟨(by repeat (first | exact Fr.le.nil | refine Fr.le.cons rfl ?_)), 10, rdP_4 hn1 hn2 hn3 hq (fun h => (by simpa using h1 : shaD (p.take q) ≠ dd) (Subtype.ext (by rw [h, hdd]))), rfl, (hE.thenExt hS).thenExt hx, ⟨_, (hG.ext hS).ext hx⟩, (hH.ext hS).ext hx⟩)
            rintro v43 w14 hR14
            obtain ⟨h1, rfl, hx14⟩ := hR14
            have hS := hS.thenExt hx14
            refine ⟨hS, ?_⟩
            refine RH.done (by kernel_rfl) ?_
            have hx15 := hS; have hz15 := hx15.size; have hE := hE.thenExt hx15; have hK := hK.ext hx15
            exact ⟨(), (by repeat (first | exact Fr.le.nil | refine Fr.le.cons rfl ?_)), by rw [(by simpa using h1 : shaD (p.take q) = dd), hdd], hx15⟩
          · skip
            refine RS.val rfl (Y.load Tryd.underlying31 rfl hm39 (sz_apiDigest _) rfl) (by first | decide | exact Nat.le_of_ble_eq_true rfl) ⟨hS, ?_⟩   -- t41 := load 31 t40
            refine RH.one 4 (by kernel_rfl) ?_
            refine RS.call rfl (fun _ _ h => by cases h) Tryd.func12 rfl rfl rfl (sum_any _ (p.take q) _ hO34.by (fun _ k hk => hO34.lt k hk) (hK.ext hS) (by rw [List.length_take]; omega)) (by first | decide | exact Nat.le_of_ble_eq_true rfl) fun v35 w16 hR16 => ?_   -- call F12(t34) : 33
            obtain ⟨rfl, hx16⟩ := hR16
            have hS := hS.thenExt hx16
            try have hm39 := hm39.ext hx16
            refine ⟨hS, ?_⟩
            refine RH.takeG [(2, .pointer (some ⟨gl, 0, none⟩)), (3, .pointer (some ⟨ge, 0, none⟩))] 11 (fun _ _ _ h => ⟨h.1, (fun _ _ h => h), h.2⟩) rfl (by kernel_rfl) hS rfl (by kernel_rfl) (by kernel_rfl) (fun wq hq => Y.neq_apiDigest rfl rfl) (by first | decide | exact Nat.le_of_ble_eq_true rfl) ?_   -- t42 := binOp neq 31 t35 t41 31
            refine RH.one 12 (by kernel_rfl) ?_
            refine RS.callOr rfl Tryd.func28 rfl rfl rfl (prefuse_any _ _ _) (by simp) (fun ch w17 hP17 => ?_) ?_   -- call F28(t42, c(10:i64)) : 4,23
            · skip
              obtain ⟨h1, rfl, hx⟩ := hP17
              exact (show Fr.le _ _ ∧ RdG p gl ge w _ _ from ⟨(by repeat (first | exact Fr.le.nil | refine Fr.le.cons rfl ?_)), 10, rdP_4 hn1 hn2 hn3 hq (fun h => (by simpa using h1 : shaD (p.take q) ≠ dd) (Subtype.ext (by rw [h, hdd]))), rfl, (hE.thenExt hS).thenExt hx, ⟨_, (hG.ext hS).ext hx⟩, (hH.ext hS).ext hx⟩)
            rintro v43 w17 hR17
            obtain ⟨h1, rfl, hx17⟩ := hR17
            have hS := hS.thenExt hx17
            refine ⟨hS, ?_⟩
            refine RH.done (by kernel_rfl) ?_
            have hx18 := hS; have hz18 := hx18.size; have hE := hE.thenExt hx18; have hK := hK.ext hx18
            exact ⟨(), (by repeat (first | exact Fr.le.nil | refine Fr.le.cons rfl ?_)), by rw [(by simpa using h1 : shaD (p.take q) = dd), hdd], hx18⟩
      · skip
        refine RS.st rfl (St.strBytes Tryd.underlying9 Tryd.underlying33 Tryd.underlying5 rfl (by rw [bs_size]; omega)) (by first | decide | exact Nat.le_of_ble_eq_true rfl) fun v39 w19 hR19 => ?_   -- convert 9 33 t38
        obtain ⟨hO39, hx19, hf39⟩ := hR19
        rw [bs_toList] at hO39
        obtain ⟨A39, m39, c39, rfl⟩ := hO39.lens
        obtain ⟨hl39, hc39, hcm39⟩ := hO39.by.len
        obtain ⟨a39, rfl, hm39⟩ := hO39.by.mem.1 (by omega)
        have hm39 : Mem w19 a39 (digC dd) := by rw [hdd]; exact hm39
        have hS := hS.thenExt hx19
        try have hO34 := hO34.ext hx19
        refine ⟨hS, ?_⟩
        refine RH.takeG [(2, .pointer (some ⟨gl, 0, none⟩)), (3, .pointer (some ⟨ge, 0, none⟩))] 9 (fun _ _ _ h => ⟨h.1, (fun _ _ h => h), h.2⟩) rfl (by kernel_rfl) hS rfl (by kernel_rfl) (by kernel_rfl) (fun wq hq => Y.toArr Tryd.underlying31 rfl (by omega)) (by first | decide | exact Nat.le_of_ble_eq_true rfl) ?_   -- t40 := sliceToArrayPointer 31 t39
        refine RH.two 3 10 (by kernel_rfl) ?_ ?_
        · skip
          refine RS.st rfl (St.strBytes Tryd.underlying9 Tryd.underlying33 Tryd.underlying5 rfl (by rw [bs_size]; rw [List.length_take]; omega)) (by first | decide | exact Nat.le_of_ble_eq_true rfl) fun v34 w20 hR20 => ?_   -- convert 9 33 t33
          obtain ⟨hO34, hx20, hf34⟩ := hR20
          rw [bs_toList] at hO34
          have hS := hS.thenExt hx20
          try have hm39 := hm39.ext hx20
          refine ⟨hS, ?_⟩
          refine RH.two 4 10 (by kernel_rfl) ?_ ?_
          · skip
            refine RS.call rfl (fun _ _ h => by cases h) Tryd.func12 rfl rfl rfl (sum_any _ (p.take q) _ hO34.by (fun _ k hk => hO34.lt k hk) (hK.ext hS) (by rw [List.length_take]; omega)) (by first | decide | exact Nat.le_of_ble_eq_true rfl) fun v35 w21 hR21 => ?_   -- call F12(t34) : 33
            obtain ⟨rfl, hx21⟩ := hR21
            have hS := hS.thenExt hx21
            try have hm39 := hm39.ext hx21
            refine ⟨hS, ?_⟩
            refine RH.one 10 (by kernel_rfl) ?_
            refine RS.val rfl (Y.load Tryd.underlying31 rfl hm39 (sz_apiDigest _) rfl) (by first | decide | exact Nat.le_of_ble_eq_true rfl) ⟨hS, ?_⟩   -- t41 := load 31 t40
            refine RH.takeG [(2, .pointer (some ⟨gl, 0, none⟩)), (3, .pointer (some ⟨ge, 0, none⟩))] 11 (fun _ _ _ h => ⟨h.1, (fun _ _ h => h), h.2⟩) rfl (by kernel_rfl) hS rfl (by kernel_rfl) (by kernel_rfl) (fun wq hq => Y.neq_apiDigest rfl rfl) (by first | decide | exact Nat.le_of_ble_eq_true rfl) ?_   -- t42 := binOp neq 31 t35 t41 31
            refine RH.one 12 (by kernel_rfl) ?_
            refine RS.callOr rfl Tryd.func28 rfl rfl rfl (prefuse_any _ _ _) (by simp) (fun ch w22 hP22 => ?_) ?_   -- call F28(t42, c(10:i64)) : 4,23
            · skip
              obtain ⟨h1, rfl, hx⟩ := hP22
              exact (show Fr.le _ _ ∧ RdG p gl ge w _ _ from ⟨(by repeat (first | exact Fr.le.nil | refine Fr.le.cons rfl ?_)), 10, rdP_4 hn1 hn2 hn3 hq (fun h => (by simpa using h1 : shaD (p.take q) ≠ dd) (Subtype.ext (by rw [h, hdd]))), rfl, (hE.thenExt hS).thenExt hx, ⟨_, (hG.ext hS).ext hx⟩, (hH.ext hS).ext hx⟩)
            rintro v43 w22 hR22
            obtain ⟨h1, rfl, hx22⟩ := hR22
            have hS := hS.thenExt hx22
            refine ⟨hS, ?_⟩
            refine RH.done (by kernel_rfl) ?_
            have hx23 := hS; have hz23 := hx23.size; have hE := hE.thenExt hx23; have hK := hK.ext hx23
            exact ⟨(), (by repeat (first | exact Fr.le.nil | refine Fr.le.cons rfl ?_)), by rw [(by simpa using h1 : shaD (p.take q) = dd), hdd], hx23⟩
          · skip
            refine RS.val rfl (Y.load Tryd.underlying31 rfl hm39 (sz_apiDigest _) rfl) (by first | decide | exact Nat.le_of_ble_eq_true rfl) ⟨hS, ?_⟩   -- t41 := load 31 t40
            refine RH.one 4 (by kernel_rfl) ?_
            refine RS.call rfl (fun _ _ h => by cases h) Tryd.func12 rfl rfl rfl (sum_any _ (p.take q) _ hO34.by (fun _ k hk => hO34.lt k hk) (hK.ext hS) (by rw [List.length_take]; omega)) (by first | decide | exact Nat.le_of_ble_eq_true rfl) fun v35 w24 hR24 => ?_   -- call F12(t34) : 33
            obtain ⟨rfl, hx24⟩ := hR24
            have hS := hS.thenExt hx24
            try have hm39 := hm39.ext hx24
            refine ⟨hS, ?_⟩
            refine RH.takeG [(2, .pointer (some ⟨gl, 0, none⟩)), (3, .pointer (some ⟨ge, 0, none⟩))] 11 (fun _ _ _ h => ⟨h.1, (fun _ _ h => h), h.2⟩) rfl (by kernel_rfl) hS rfl (by kernel_rfl) (by kernel_rfl) (fun wq hq => Y.neq_apiDigest rfl rfl) (by first | decide | exact Nat.le_of_ble_eq_true rfl) ?_   -- t42 := binOp neq 31 t35 t41 31
            refine RH.one 12 (by kernel_rfl) ?_
            refine RS.callOr rfl Tryd.func28 rfl rfl rfl (prefuse_any _ _ _) (by simp) (fun ch w25 hP25 => ?_) ?_   -- call F28(t42, c(10:i64)) : 4,23
            · skip
              obtain ⟨h1, rfl, hx⟩ := hP25
              exact (show Fr.le _ _ ∧ RdG p gl ge w _ _ from ⟨(by repeat (first | exact Fr.le.nil | refine Fr.le.cons rfl ?_)), 10, rdP_4 hn1 hn2 hn3 hq (fun h => (by simpa using h1 : shaD (p.take q) ≠ dd) (Subtype.ext (by rw [h, hdd]))), rfl, (hE.thenExt hS).thenExt hx, ⟨_, (hG.ext hS).ext hx⟩, (hH.ext hS).ext hx⟩)
            rintro v43 w25 hR25
            obtain ⟨h1, rfl, hx25⟩ := hR25
            have hS := hS.thenExt hx25
            refine ⟨hS, ?_⟩
            refine RH.done (by kernel_rfl) ?_
            have hx26 := hS; have hz26 := hx26.size; have hE := hE.thenExt hx26; have hK := hK.ext hx26
            exact ⟨(), (by repeat (first | exact Fr.le.nil | refine Fr.le.cons rfl ?_)), by rw [(by simpa using h1 : shaD (p.take q) = dd), hdd], hx26⟩
        · skip
          refine RS.val rfl (Y.load Tryd.underlying31 rfl hm39 (sz_apiDigest _) rfl) (by first | decide | exact Nat.le_of_ble_eq_true rfl) ⟨hS, ?_⟩   -- t41 := load 31 t40
          refine RH.one 3 (by kernel_rfl) ?_
          refine RS.st rfl (St.strBytes Tryd.underlying9 Tryd.underlying33 Tryd.underlying5 rfl (by rw [bs_size]; rw [List.length_take]; omega)) (by first | decide | exact Nat.le_of_ble_eq_true rfl) fun v34 w27 hR27 => ?_   -- convert 9 33 t33
          obtain ⟨hO34, hx27, hf34⟩ := hR27
          rw [bs_toList] at hO34
          have hS := hS.thenExt hx27
          try have hm39 := hm39.ext hx27
          refine ⟨hS, ?_⟩
          refine RH.one 4 (by kernel_rfl) ?_
          refine RS.call rfl (fun _ _ h => by cases h) Tryd.func12 rfl rfl rfl (sum_any _ (p.take q) _ hO34.by (fun _ k hk => hO34.lt k hk) (hK.ext hS) (by rw [List.length_take]; omega)) (by first | decide | exact Nat.le_of_ble_eq_true rfl) fun v35 w28 hR28 => ?_   -- call F12(t34) : 33
          obtain ⟨rfl, hx28⟩ := hR28
          have hS := hS.thenExt hx28
          try have hm39 := hm39.ext hx28
          refine ⟨hS, ?_⟩
          refine RH.takeG [(2, .pointer (some ⟨gl, 0, none⟩)), (3, .pointer (some ⟨ge, 0, none⟩))] 11 (fun _ _ _ h => ⟨h.1, (fun _ _ h => h), h.2⟩) rfl (by kernel_rfl) hS rfl (by kernel_rfl) (by kernel_rfl) (fun wq hq => Y.neq_apiDigest rfl rfl) (by first | decide | exact Nat.le_of_ble_eq_true rfl) ?_   -- t42 := binOp neq 31 t35 t41 31
          refine RH.one 12 (by kernel_rfl) ?_
          refine RS.callOr rfl Tryd.func28 rfl rfl rfl (prefuse_any _ _ _) (by simp) (fun ch w29 hP29 => ?_) ?_   -- call F28(t42, c(10:i64)) : 4,23
          · skip
            obtain ⟨h1, rfl, hx⟩ := hP29
            exact (show Fr.le _ _ ∧ RdG p gl ge w _ _ from ⟨(by repeat (first | exact Fr.le.nil | refine Fr.le.cons rfl ?_)), 10, rdP_4 hn1 hn2 hn3 hq (fun h => (by simpa using h1 : shaD (p.take q) ≠ dd) (Subtype.ext (by rw [h, hdd]))), rfl, (hE.thenExt hS).thenExt hx, ⟨_, (hG.ext hS).ext hx⟩, (hH.ext hS).ext hx⟩)
          rintro v43 w29 hR29
          obtain ⟨h1, rfl, hx29⟩ := hR29
          have hS := hS.thenExt hx29
          refine ⟨hS, ?_⟩
          refine RH.done (by kernel_rfl) ?_
          have hx30 := hS; have hz30 := hx30.size; have hE := hE.thenExt hx30; have hK := hK.ext hx30
          exact ⟨(), (by repeat (first | exact Fr.le.nil | refine Fr.le.cons rfl ?_)), by rw [(by simpa using h1 : shaD (p.take q) = dd), hdd], hx30⟩
    rintro u w31 hj31
    obtain ⟨hsum, hx31⟩ := hj31
    have hz31 := hx31.size
    have hE := hE.thenExt hx31
    have hK := hK.ext hx31
    have hG := hG.ext hx31
    have hH := hH.ext hx31
    have hrd := rdP_5 hn1 hn2 hn3 hq hsum
    refine CW.seq fun K4 hK4 => ?_
    refine CW.region ?_   -- region 7
    refine WL.val (Y.move rfl) (by first | decide | exact Nat.le_of_ble_eq_true rfl) ?_   -- t44 := move t0
    refine WL.val (Y.move rfl) (by first | decide | exact Nat.le_of_ble_eq_true rfl) ?_   -- t45 := move t4
    refine WL.val (Y.strHead (j := q) Tryd.underlying9 rfl rfl (by omega) (by omega)) (by first | decide | exact Nat.le_of_ble_eq_true rfl) ?_   -- t46 := slice 9 t44 none t45 none
    refine WL.st (St.strBytes Tryd.underlying9 Tryd.underlying33 Tryd.underlying5 rfl (by rw [bs_size]; omega)) (by first | decide | exact Nat.le_of_ble_eq_true rfl) fun v47 w32 hR32 => ?_   -- t47 := convert 9 33 t46
    obtain ⟨hO47, hx32, hf47⟩ := hR32
    rw [bs_toList] at hO47
    have hz32 := hx32.size
    have hE := hE.thenExt hx32
    have hK := hK.ext hx32
    have hG := hG.ext hx32
    have hH := hH.ext hx32
    obtain ⟨A47, m47, c47, rfl⟩ := hO47.lens
    have hbl := hO47.lt
    refine WL.val (Y.build rfl (build_preader _ _ _ _)) (by first | decide | exact Nat.le_of_ble_eq_true rfl) ?_   -- t48 := build 62 [(0,t47), (1,c(3:i64))]
    refine as_packreader rfl (by simp) (by first | decide | exact Nat.le_of_ble_eq_true rfl) fun g5 w33 hx33 hg5 hB5 => ?_   -- alloc 62; store 62 t5 t48
    have hlt5 := hB5.lt; have hz33 := hx33.size
    have hM5 := hB5.mem; have hz33 := hx33.size; have hE := hE.thenExt hx33; have hK := hK.ext hx33
    refine WL.nil ?_
    refine hK4 _ _ ?_; try clear hK4 K4
    refine CW.seq fun K5 hK5 => ?_
    refine CW.region ?_   -- region 8
    refine WL.callOr Tryd.func29 rfl rfl rfl (pknum_any g5 _ (p.take q) 3 _ hB5 (hO47.ext hx33).by (fun _ k hk => by have := hbl k hk; omega) (by omega)) (by simp) (fun ch w34 hP34 => ?_) ?_   -- t49 := call F29(t5) : 62
    · skip
      obtain ⟨e, he, rfl, hc⟩ := hP34
      exact (show Fr.le _ _ ∧ RdG p gl ge w _ _ from ⟨(by repeat (first | exact Fr.le.nil | refine Fr.le.cons rfl ?_)), e, by rw [hrd]; exact rbody_1 he, rfl, hE.stepO hc (fun k h => .inr (by have h : k = g5 := h; omega)), ⟨_, (hG.ext hx33).chg hc (fun h => by have h : _ = g5 := h; omega)⟩, (hH.ext hx33).chg hc (fun h => by have h : _ = g5 := h; omega)⟩)
    rintro v49 w34 hR34
    obtain ⟨n, a1, hgn, rfl, hc34, hB5⟩ := hR34
    have hG := hG.ext hx33
    have hH := hH.ext hx33
    have hE := hE.stepO hc34 (fun k h => .inr (by have h : k = g5 := h; omega))
    have hz34 := hc34.size
    have hK := hK.chg hc34 (fun h => by have h : 0 = g5 := h; omega)
    have hG := hG.chg hc34 (fun h => by have h : gl = g5 := h; omega)
    have hH := hH.chg hc34 (fun h => by have h : ge = g5 := h; omega)
    have hbg : (p.take q) ≠ [] → ∀ k, (Value.slice A47 m47 c47).ownBlock = some k → k ≠ g5 := fun _ k hk => by have := hbl k hk; omega
    have hb := (hO47.ext hx33).by.chg hc34 hbg
    have hla := gnum_len hgn (by omega)
    refine WL.val (Y.assign rfl) (by first | decide | exact Nat.le_of_ble_eq_true rfl) ?_   -- t6 := assign t49
    refine WL.nil ?_
    refine hK5 _ _ ?_; try clear hK5 K5
    refine CW.seq fun K6 hK6 => ?_
    refine CW.region ?_   -- region 9
    refine WL.val (Y.move rfl) (by first | decide | exact Nat.le_of_ble_eq_true rfl) ?_   -- t50 := move t6
    refine WL.val (Y.gtr rfl rfl) (by first | decide | exact Nat.le_of_ble_eq_true rfl) ?_   -- t51 := binOp gtr 3 t50 c(500:i64) 3
    refine WL.callOr Tryd.func28 rfl rfl rfl (prefuse_any _ _ _) (by simp) (fun ch w35 hP35 => ?_) ?_   -- t52 := call F28(t51, c(4:i64)) : 4,23
    · skip
      obtain ⟨h1, rfl, hx⟩ := hP35
      exact (show Fr.le _ _ ∧ RdG p gl ge w _ _ from ⟨(by repeat (first | exact Fr.le.nil | refine Fr.le.cons rfl ?_)), 4, by rw [hrd]; exact rbody_2 hgn (by have := of_decide_eq_true h1; omega), rfl, hE.thenExt hx, ⟨_, hG.ext hx⟩, hH.ext hx⟩)
    rintro v52 w35 hR35
    obtain ⟨h1, rfl, hx35⟩ := hR35
    have hz35 := hx35.size
    have hE := hE.thenExt hx35
    have hK := hK.ext hx35
    have hG := hG.ext hx35
    have hH := hH.ext hx35
    have hB5 := hB5.ext hx35
    have hb := hb.ext hx35
    have hn5 : ¬ 500 < n := by have := of_decide_eq_false h1; omega
    have hblo : ∀ k, (Value.slice A47 m47 c47).ownBlock = some k → w.heap.size ≤ k := fun k hk => by have := hf47 k hk; have := hE.size; omega
    obtain ⟨bv, hbv⟩ : ∃ bv, bv = Value.slice A47 m47 c47 := ⟨_, rfl⟩
    rw [← hbv] at hB5 hb hbl hbg hblo
    have hbW : ∀ k, bv.ownBlock = some k → k < w35.heap.size := fun k hk => by have := hbl k hk; omega
    have hg5W : g5 < w35.heap.size := by omega
    obtain ⟨W, hW⟩ : ∃ W, W = w35.heap.size := ⟨_, rfl⟩
    rw [← hW] at hbW hg5W
    have hwW : w.heap.size ≤ W := by have := hE.size; omega
    refine WL.nil ?_
    refine hK6 _ _ ?_; try clear hK6 K6
    refine CW.seq fun K7 hK7 => ?_
    refine CW.region ?_   -- region 10
    refine WL.val (Y.assign rfl) (by first | decide | exact Nat.le_of_ble_eq_true rfl) ?_   -- t7 := assign c(nilslice)
    refine WL.nil ?_
    refine hK7 _ _ ?_; try clear hK7 K7
    refine CW.seq fun K8 hK8 => ?_
    refine CW.region ?_   -- region 11
    refine WL.val (Y.assign rfl) (by first | decide | exact Nat.le_of_ble_eq_true rfl) ?_   -- t8 := assign c(STR)
    refine WL.val (Y.assign rfl) (by first | decide | exact Nat.le_of_ble_eq_true rfl) ?_   -- t9 := assign c(0:i64)
    refine WL.nil ?_
    refine hK8 _ _ ?_; try clear hK8 K8
    refine CW.seq fun K9 hK9 => ?_
    refine CW.seq fun K10 hK10 => ?_
    refine CW.region ?_   -- region 12
    refine WL.val (Y.move rfl) (by first | decide | exact Nat.le_of_ble_eq_true rfl) ?_   -- t53 := move t6
    refine WL.val (Y.move rfl) (by first | decide | exact Nat.le_of_ble_eq_true rfl) ?_   -- t54 := move c(0:i64)
    refine WL.nil ?_
    refine hK10 _ _ ?_; try clear hK10 K10
    refine CW.block ?_   -- block 0
    refine CW.loop (X := RdI) (fun x => [(2, .pointer (some ⟨gl, 0, none⟩)), (3, .pointer (some ⟨ge, 0, none⟩)), (4, .int .i64 (q : Int)), (5, .pointer (some ⟨g5, 0, none⟩)), (6, .int .i64 (n : Int)), (7, x.uv), (8, .string (bs x.ah)), (9, .int .i64 (x.dp : Int)), (53, .int .i64 (n : Int)), (54, .int .i64 (x.i : Int))]) (fun x w0 => RdAt w0 W gl ge g5 bv (p.take q) n a1 x ∧ Mem w0 ⟨0, 0, none⟩ (wds keysL) ∧ Chg (fun k => k = gl ∨ k = ge) w w0) (fun x => n - x.i) ⟨0, [], [], [], 0, a1, .slice none 0 0, .slice none 0 0⟩ (by repeat (first | exact Fr.le.nil | refine Fr.le.cons rfl ?_)) ⟨⟨Nat.zero_le _, rfl, hB5, (by show a1 ≤ (p.take q).length; omega), Own.nil, fun k h => by simp [Value.ownBlock] at h, hG, Own.nil, fun k h => by simp [Value.ownBlock] at h, hH, rfl, rfl, Nat.zero_le _, Nat.zero_le _, hb, by omega⟩, hK, hE⟩ ?_
    intro x w36 hl36
    clear hK hE hB5 hG hH hb hO47
    obtain ⟨hA, hK, hE⟩ := hl36
    obtain ⟨i, ids, l, ah, dp, at_, uv, lv⟩ := x
    obtain ⟨hle, hrun, hB5, hat, hI, hiw, hG, hL, hlw, hH, hni, hnl, hal, hdp, hb, hwz⟩ := hA
    dsimp only at hle hrun hB5 hat hI hiw hG hL hlw hH hni hnl hal hdp ⊢
    have hIlt := hI.lt
    have hLlt := hL.lt
    refine CW.seq fun K11 hK11 => ?_
    refine CW.region ?_   -- region 13
    refine WL.val (Y.lss rfl rfl) (by first | decide | exact Nat.le_of_ble_eq_true rfl) ?_   -- t55 := binOp lss 3 t54 t53 3
    refine WL.nil ?_
    refine hK11 _ _ ?_; try clear hK11 K11
    refine CW.seq fun K12 hK12 => ?_
    first | refine CW.condD rfl (fun ht13 => ?_) (fun ht13 => ?_) | refine CW.condND rfl (fun ht13 => ?_) (fun ht13 => ?_) | refine CW.condN rfl (fun ht13 => ?_) (fun ht13 => ?_) | refine CW.cond rfl (fun ht13 => ?_) (fun ht13 => ?_)
    · -- then
      refine CW.skip ?_
      refine hK12 _ _ ?_; try clear hK12 K12
      refine CW.seq fun K14 hK14 => ?_
      refine CW.block ?_   -- block 1
      refine CW.seq fun K15 hK15 => ?_
      refine CW.region ?_   -- region 14
      refine WL.alloc (hid) (hzd) rfl (by first | decide | exact Nat.le_of_ble_eq_true rfl) fun g10 w37 hx37 hg10 hB10 => ?_   -- t10 := alloc 31
      have hlt10 := hB10.lt; have hz37 := hx37.size
      have hM10 := hB10.mem; have hz37 := hx37.size; have hE := hE.thenExt hx37; have hK := hK.ext hx37; have hB5 := hB5.ext hx37
      refine WL.nil ?_
      refine hK15 _ _ ?_; try clear hK15 K15
      refine CW.seq fun K16 hK16 => ?_
      refine CW.region ?_   -- region 15
      refine WL.val (Y.move rfl) (by first | decide | exact Nat.le_of_ble_eq_true rfl) ?_   -- t57 := move t7
      refine WL.val (Y.move rfl) (by first | decide | exact Nat.le_of_ble_eq_true rfl) ?_   -- t58 := move t8
      refine WL.val (Y.move rfl) (by first | decide | exact Nat.le_of_ble_eq_true rfl) ?_   -- t59 := move t9
      refine WL.callOr Tryd.func30 rfl rfl rfl (pkobj_any g5 bv (p.take q) at_ uv ids ah dp _ hB5 (hb.ext hx37) hbg hat (hI.ext hx37) (fun k hk => by have := (hiw k hk).1; omega) hal hdp (by omega) hK) (by simp) (fun ch w38 hP38 => ?_) ?_   -- t60 := call F30(t5, t57, t58, t59) : 62,29,9,3
      · skip
        obtain ⟨e, he, rfl, hc⟩ := hP38
        exact (show Fr.le _ _ ∧ RdG p gl ge w _ _ from ⟨(by repeat (first | exact Fr.le.nil | refine Fr.le.cons rfl ?_)), e, by rw [hrd]; exact rbody_3 hgn hn5 (by rw [← hrun, show n - i = (n - (i + 1)) + 1 from by omega]; exact robjs_e he), rfl, hE.stepO hc (fun k h => .inr (by have h : k = g5 := h; omega)), ⟨_, (hG.ext hx37).chg hc (fun h => by have h : _ = g5 := h; omega)⟩, (hH.ext hx37).chg hc (fun h => by have h : _ = g5 := h; omega)⟩)
      rintro v60 w38 hR38
      obtain ⟨d, s, dp1, a2, hro, rfl, hc38, hB5⟩ := hR38
      have hG := hG.ext hx37
      have hH := hH.ext hx37
      have hI := hI.ext hx37
      have hL := hL.ext hx37
      have hb := hb.ext hx37
      have hE := hE.stepO hc38 (fun k h => .inr (by have h : k = g5 := h; omega))
      have hz38 := hc38.size
      have hK := hK.chg hc38 (fun h => by have h : 0 = g5 := h; omega)
      have hG := hG.chg hc38 (fun h => by have h : gl = g5 := h; omega)
      have hH := hH.chg hc38 (fun h => by have h : ge = g5 := h; omega)
      have hB10 := hB10.chg hc38 (fun h => by have h : g10 = g5 := h; omega)
      have hI := hI.chg hc38 (fun k hk h => by have h : k = g5 := h; have := hiw k hk; omega)
      have hL := hL.chg hc38 (fun k hk h => by have h : k = g5 := h; have := hlw k hk; omega)
      have hb := hb.chg hc38 hbg
      have hrl := robj_len hro hat (by omega)
      refine WL.val (Y.move rfl) (by first | decide | exact Nat.le_of_ble_eq_true rfl) ?_   -- t56 := move t60
      refine WL.val (Y.extract rfl rfl) (by first | decide | exact Nat.le_of_ble_eq_true rfl) ?_   -- t61 := extract t56 0
      refine WL.val (Y.extract rfl rfl) (by first | decide | exact Nat.le_of_ble_eq_true rfl) ?_   -- t62 := extract t56 1
      refine WL.val (Y.extract rfl rfl) (by first | decide | exact Nat.le_of_ble_eq_true rfl) ?_   -- t63 := extract t56 2
      refine WL.store (g := g10) (pre := []) (old := digC Dig.zero) (post := []) (new := digC d) rfl rfl rfl rfl (sz_apiDigest _) (by simpa using hB10) (by first | rfl | (simp [digC_length, opC_length]; done) | (simp only [digC_length, opC_length]; omega)) (one_digC) (fun w39 hc39 hB39_ => ?_)   -- _ := store 31 t10 t61
      have hz39 := hc39.size; have hE := hE.stepO hc39 (fun k h => (by show (k = gl ∨ k = ge) ∨ _; omega)); have hK := hK.chg hc39 (fun h => by change 0 = _ at h; omega); have hB5 := hB5.chg hc39 (fun h => by omega)
      have hB10 : Blk w39 g10 31 (digC d) := by simpa using hB39_
      have hz39 := hc39.size
      have hG := hG.chg hc39 (fun h => by have h : gl = g10 := h; omega)
      have hH := hH.chg hc39 (fun h => by have h : ge = g10 := h; omega)
      have hI := hI.chg hc39 (fun k hk h => by have h : k = g10 := h; have := hIlt k hk; omega)
      have hL := hL.chg hc39 (fun k hk h => by have h : k = g10 := h; have := hLlt k hk; omega)
      have hb := hb.chg hc39 (fun _ k hk h => by have h : k = g10 := h; have := hbW k hk; omega)
      refine WL.val (Y.assign rfl) (by first | decide | exact Nat.le_of_ble_eq_true rfl) ?_   -- t8 := assign t62
      refine WL.val (Y.assign rfl) (by first | decide | exact Nat.le_of_ble_eq_true rfl) ?_   -- t9 := assign t63
      refine WL.nil ?_
      refine hK16 _ _ ?_; try clear hK16 K16
      refine CW.seq fun K17 hK17 => ?_
      refine CW.region ?_   -- region 16
      refine WL.val (Y.move rfl) (by first | decide | exact Nat.le_of_ble_eq_true rfl) ?_   -- t64 := move t7
      refine WL.val (Y.load Tryd.underlying31 rfl hB10.mem (sz_apiDigest _) rfl) (by first | decide | exact Nat.le_of_ble_eq_true rfl) ?_   -- t65 := load 31 t10
      refine WL.st (St.buildSlice rfl (bs1_dig _)) (by first | decide | exact Nat.le_of_ble_eq_true rfl) fun v66 w40 hR40 => ?_   -- t66 := buildSlice 29 1 [(0,t65)]
      obtain ⟨g66, rfl, hg66, hB66, hx40⟩ := hR40
      have hz40 := hx40.size
      have hE := hE.thenExt hx40
      have hK := hK.ext hx40
      have hG := hG.ext hx40
      have hH := hH.ext hx40
      have hB5 := hB5.ext hx40
      have hB10 := hB10.ext hx40
      have hI := hI.ext hx40
      have hL := hL.ext hx40
      have hb := hb.ext hx40
      have hIlt2 := hI.lt
      have hLlt2 := hL.lt
      refine WL.st (St.append Tryd.underlying29 Tryd.underlying29 ai_dig rfl rfl hI (Src.one hB66 (digC_length _)) one_digC (by rw [flat_length digC_length]; omega)) (by first | decide | exact Nat.le_of_ble_eq_true rfl) fun v67 w41 hR41 => ?_   -- t67 := call append(t64, t66) : 29,29
      obtain ⟨hI, hc41, hf41⟩ := hR41
      have hz41 := hc41.size
      have hE := hE.stepO hc41 (fun k h => .inr (by have := (hiw k h).1; omega))
      have hK := hK.chg hc41 (fun h => by have h1 : W ≤ 0 := (hiw _ h).1; omega)
      have hG := hG.chg hc41 (fun h => by have h1 : W ≤ gl := (hiw _ h).1; omega)
      have hH := hH.chg hc41 (fun h => by have h1 : W ≤ ge := (hiw _ h).1; omega)
      have hB5 := hB5.chg hc41 (fun h => by have h1 : W ≤ g5 := (hiw _ h).1; omega)
      have hL := hL.chg hc41 (fun k hk h => (hiw k h).2 hk)
      have hb := hb.chg hc41 (fun _ k hk h => by have := (hiw k h).1; have := hbW k hk; omega)
      have hiw2 : ∀ k, v67.ownBlock = some k → W ≤ k ∧ lv.ownBlock ≠ some k := by
        rcases hf41 with h | h
        · intro k hk; rw [h] at hk; exact hiw k hk
        · intro k hk; have := h k hk; exact ⟨by omega, fun hv => by have := hLlt2 k hv; omega⟩
      have hIlt3 := hI.lt
      refine WL.val (Y.assign rfl) (by first | decide | exact Nat.le_of_ble_eq_true rfl) ?_   -- t7 := assign t67
      refine WL.nil ?_
      refine hK17 _ _ ?_; try clear hK17 K17
      refine CW.region ?_   -- region 17
      refine WL.val (Y.load1 Tryd.underlying22 rfl hG.mem.cell0 rfl) (by first | decide | exact Nat.le_of_ble_eq_true rfl) ?_   -- t68 := load 22 t2
      refine WL.val (Y.move rfl) (by first | decide | exact Nat.le_of_ble_eq_true rfl) ?_   -- t69 := move t8
      refine WL.st (St.buildSlice rfl (bs1_str _)) (by first | decide | exact Nat.le_of_ble_eq_true rfl) fun v70 w42 hR42 => ?_   -- t70 := buildSlice 22 1 [(0,t69)]
      obtain ⟨g70, rfl, hg70, hB70, hx42⟩ := hR42
      have hz42 := hx42.size
      have hE := hE.thenExt hx42
      have hK := hK.ext hx42
      have hG := hG.ext hx42
      have hH := hH.ext hx42
      have hB5 := hB5.ext hx42
      have hI := hI.ext hx42
      have hL := hL.ext hx42
      have hb := hb.ext hx42
      refine WL.st (St.append Tryd.underlying22 Tryd.underlying22 ai_str rfl rfl hL (Src.one hB70 rfl) (one1 rfl) (by rw [flat_length strC_length]; omega)) (by first | decide | exact Nat.le_of_ble_eq_true rfl) fun v71 w43 hR43 => ?_   -- t71 := call append(t68, t70) : 22,22
      obtain ⟨hL, hc43, hf43⟩ := hR43
      have hz43 := hc43.size
      have hE := hE.stepO hc43 (fun k h => .inr (by have := hlw k h; omega))
      have hK := hK.chg hc43 (fun h => by have h1 : W ≤ 0 := hlw _ h; omega)
      have hG := hG.chg hc43 (fun h => by have h1 : W ≤ gl := hlw _ h; omega)
      have hH := hH.chg hc43 (fun h => by have h1 : W ≤ ge := hlw _ h; omega)
      have hB5 := hB5.chg hc43 (fun h => by have h1 : W ≤ g5 := hlw _ h; omega)
      have hI := hI.chg hc43 (fun k hk h => (hiw2 k hk).2 h)
      have hb := hb.chg hc43 (fun _ k hk h => by have := hlw k h; have := hbW k hk; omega)
      have hiw3 : ∀ k, v67.ownBlock = some k → W ≤ k ∧ v71.ownBlock ≠ some k := by
        rcases hf43 with h | h
        · intro k hk; rw [h]; exact hiw2 k hk
        · intro k hk; exact ⟨(hiw2 k hk).1, fun hv => by have := h k hv; have := hIlt3 k hk; omega⟩
      have hlw3 : ∀ k, v71.ownBlock = some k → W ≤ k := by
        rcases hf43 with h | h
        · intro k hk; rw [h] at hk; exact hlw k hk
        · intro k hk; have := h k hk; omega
      obtain ⟨A71, m71, c71, rfl⟩ := hL.lens
      refine WL.store (g := gl) (pre := []) (old := [lv]) (post := []) (new := [.slice A71 m71 c71]) rfl rfl rfl rfl (by kernel_rfl) (by simpa using hG) (by first | rfl | (simp [digC_length, opC_length]; done) | (simp only [digC_length, opC_length]; omega)) (one1 rfl) (fun w44 hc44 hB44_ => ?_)   -- _ := store 22 t2 t71
      have hz44 := hc44.size; have hE := hE.stepO hc44 (fun k h => (by show (k = gl ∨ k = ge) ∨ _; omega)); have hK := hK.chg hc44 (fun h => by change 0 = _ at h; omega); have hB5 := hB5.chg hc44 (fun h => by omega); have hB10 := hB10
      have hG : Blk w44 gl TSs [.slice A71 m71 c71] := by simpa using hB44_
      have hz44 := hc44.size
      have hH := hH.chg hc44 (fun h => by have h : ge = gl := h; omega)
      have hI := hI.chg hc44 (fun k hk h => by have h : k = gl := h; have := (hiw3 k hk).1; omega)
      have hL := hL.chg hc44 (fun k hk h => by have h : k = gl := h; have := hlw3 k hk; omega)
      have hb := hb.chg hc44 (fun _ k hk h => by have h : k = gl := h; have := hblo k hk; omega)
      refine WL.nil ?_
      refine hK14 _ _ ?_; try clear hK14 K14
      refine CW.region ?_   -- region 18
      refine WL.val (Y.add rfl rfl ⟨by omega, by omega⟩) (by first | decide | exact Nat.le_of_ble_eq_true rfl) ?_   -- t72 := binOp add 3 t54 c(1:i64) 3
      refine WL.val (Y.move rfl) (by first | decide | exact Nat.le_of_ble_eq_true rfl) ?_   -- t54 := move t72
      refine WL.nil ?_
      refine ⟨⟨i + 1, ids ++ [d], l ++ [s], s, dp1, a2, v67, .slice A71 m71 c71⟩, by show n - (i + 1) < n - i; omega, (by repeat (first | exact Fr.le.nil | refine Fr.le.cons rfl ?_)), ⟨by show i + 1 ≤ n; omega, ?_, hB5, hrl.2.1, by simpa [flatD] using hI, hiw3, hG, by simpa [flatS, strC] using hL, hlw3, hH, by simp [hni], by simp [hnl], by show s.length ≤ _; omega, hrl.2.2.2, hb, by omega⟩, hK, hE⟩
      show robjs _ (n - (i + 1)) _ _ _ _ _ = _
      rw [← robjs_s hro, ← hrun, show n - i = (n - (i + 1)) + 1 from by omega]
    -- else
    have hin : n - i = 0 := by omega
    have hfin : robjs (p.take q) n [] [] [] 0 a1 = .ok (l, at_) := by rw [← hrun, hin]; rfl
    refine CW.exit ?_   -- exit 0
    refine hK9 _ _ ?_; try clear hK9 K9
    refine CW.seq fun K18 hK18 => ?_
    refine CW.region ?_   -- region 19
    refine WL.val (Y.fieldAddr fo_packreader1 rfl) (by first | decide | exact Nat.le_of_ble_eq_true rfl) ?_   -- t73 := fieldAddr 62 t5 1
    refine WL.val (Y.load1 Tryd.underlying3 rfl hB5.mem.packreader1 rfl) (by first | decide | exact Nat.le_of_ble_eq_true rfl) ?_   -- t74 := load 3 t73
    refine WL.val (Y.move rfl) (by first | decide | exact Nat.le_of_ble_eq_true rfl) ?_   -- t75 := move t4
    refine WL.val (Y.neq rfl rfl) (by first | decide | exact Nat.le_of_ble_eq_true rfl) ?_   -- t76 := binOp neq 3 t74 t75 3
    refine WL.callOr Tryd.func28 rfl rfl rfl (prefuse_any _ _ _) (by simp) (fun ch w45 hP45 => ?_) ?_   -- t77 := call F28(t76, c(7:i64)) : 4,23
    · skip
      obtain ⟨h1, rfl, hx⟩ := hP45
      exact (show Fr.le _ _ ∧ RdG p gl ge w _ _ from ⟨(by repeat (first | exact Fr.le.nil | refine Fr.le.cons rfl ?_)), 7, by rw [hrd]; exact rbody_4 hgn hn5 hfin (by have := of_decide_eq_true h1; omega), rfl, hE.thenExt hx, ⟨_, hG.ext hx⟩, hH.ext hx⟩)
    rintro v77 w45 hR45
    obtain ⟨h1, rfl, hx45⟩ := hR45
    have hz45 := hx45.size
    have hE := hE.thenExt hx45
    have hK := hK.ext hx45
    have hG := hG.ext hx45
    have hH := hH.ext hx45
    have hB5 := hB5.ext hx45
    have hL := hL.ext hx45
    have hat2 : at_ = (p.take q).length := by have := of_decide_eq_false h1; omega
    obtain ⟨A71, m71, c71, rfl⟩ := hL.lens
    refine WL.nil ?_
    refine hK18 _ _ ?_; try clear hK18 K18
    refine CW.seq fun K19 hK19 => ?_
    refine CW.region ?_   -- region 20
    refine WL.val (Y.load1 Tryd.underlying22 rfl hG.mem.cell0 rfl) (by first | decide | exact Nat.le_of_ble_eq_true rfl) ?_   -- t78 := load 22 t2
    refine WL.store (g := gl) (pre := []) (old := [.slice A71 m71 c71]) (post := []) (new := [.slice A71 m71 c71]) rfl rfl rfl rfl (by kernel_rfl) (by simpa using hG) (by first | rfl | (simp [digC_length, opC_length]; done) | (simp only [digC_length, opC_length]; omega)) (one1 rfl) (fun w46 hc46 hB46_ => ?_)   -- _ := store 22 t2 t78
    have hz46 := hc46.size; have hE := hE.stepO hc46 (fun k h => (by show (k = gl ∨ k = ge) ∨ _; omega)); have hK := hK.chg hc46 (fun h => by change 0 = _ at h; omega); have hB5 := hB5.chg hc46 (fun h => by omega)
    have hG : Blk w46 gl TSs [.slice A71 m71 c71] := by simpa using hB46_
    have hz46 := hc46.size
    have hH := hH.chg hc46 (fun h => by have h : ge = gl := h; omega)
    have hL := hL.chg hc46 (fun k hk h => by have h : k = gl := h; have := hlw k hk; omega)
    refine WL.store (g := ge) (pre := []) (old := [.int .i64 0]) (post := []) (new := [.int .i64 0]) rfl rfl rfl rfl (by kernel_rfl) (by simpa using hH) (by first | rfl | (simp [digC_length, opC_length]; done) | (simp only [digC_length, opC_length]; omega)) (one1 rfl) (fun w47 hc47 hB47_ => ?_)   -- _ := store 23 t3 c(0:i64)
    have hz47 := hc47.size; have hE := hE.stepO hc47 (fun k h => (by show (k = gl ∨ k = ge) ∨ _; omega)); have hK := hK.chg hc47 (fun h => by change 0 = _ at h; omega); have hB5 := hB5.chg hc47 (fun h => by omega)
    have hH : Blk w47 ge TEr [.int .i64 0] := by simpa using hB47_
    have hz47 := hc47.size
    have hG := hG.chg hc47 (fun h => by have h : gl = ge := h; omega)
    have hL := hL.chg hc47 (fun k hk h => by have h : k = ge := h; have := hlw k hk; omega)
    refine WL.nil ?_
    refine hK19 _ _ ?_; try clear hK19 K19
    refine CW.ret ?_
    exact ⟨(by repeat (first | exact Fr.le.nil | refine Fr.le.cons rfl ?_)), l, .slice A71 m71 c71, by rw [hrd]; exact rbody_5 hgn hn5 hfin hat2, hG, hL, fun k hk => by have := hlw k hk; omega, hH, hE⟩
  intro e f a4 w4 hr4 hp
  cases e with
  | ret =>
    obtain ⟨hle, l, lv, hd, hG4, hL, hlw, hH4, hx⟩ := hp
    have hr5 := hr4.weaken hle
    show Leaves _ _ _ _ _ _ _
    rw [hr5.defers]
    refine leaves_cons (f := 27) (args := #[.pointer (some ⟨gl, 0, none⟩), .pointer (some ⟨ge, 0, none⟩)]) (by simp) (by simp [go_sem]) ?_
    refine (rcatch_idle _ _ w4).mono ?_
    rintro r u' w5 ⟨rfl, rfl, rfl⟩
    exact ⟨_, rd_res hr5 rfl rfl hG4 hH4, lv, ((Ext.chg hx0).trans hx (fun _ _ h => h)).toExt (fun i hi h => by omega), fun k hk => by have := hlw k hk; omega, .inl ⟨l, hd, rfl, hL⟩⟩
  | normal =>
    obtain ⟨hle, l, lv, hd, hG4, hL, hlw, hH4, hx⟩ := hp
    have hr5 := hr4.weaken hle
    show Leaves _ _ _ _ _ _ _
    rw [hr5.defers]
    refine leaves_cons (f := 27) (args := #[.pointer (some ⟨gl, 0, none⟩), .pointer (some ⟨ge, 0, none⟩)]) (by simp) (by simp [go_sem]) ?_
    refine (rcatch_idle _ _ w4).mono ?_
    rintro r u' w5 ⟨rfl, rfl, rfl⟩
    exact ⟨_, rd_res hr5 rfl rfl hG4 hH4, lv, ((Ext.chg hx0).trans hx (fun _ _ h => h)).toExt (fun i hi h => by omega), fun k hk => by have := hlw k hk; omega, .inl ⟨l, hd, rfl, hL⟩⟩
  | panic ch =>
    obtain ⟨hle, e, hd, rfl, hx, ⟨x, hG4⟩, hH4⟩ := hp
    have hr5 := hr4.weaken hle
    show Leaves _ _ _ _ _ _ _
    rw [hr5.defers]
    refine leaves_cons (f := 27) (args := #[.pointer (some ⟨gl, 0, none⟩), .pointer (some ⟨ge, 0, none⟩)]) (by simp) (by simp [go_sem]) ?_
    refine (rcatch_pan gl ge x _ e [] w4 hG4 hH4 (by omega)).mono ?_
    rintro r u' w5 ⟨rfl, rfl, hcg, hG5, hH5⟩
    show ∃ v, _
    exact ⟨_, rd_res hr5 rfl rfl hG5 hH5, .slice none 0 0, ((Ext.chg (S := fun k => k = gl ∨ k = ge) hx0).trans (hx.trans hcg (fun _ _ h => h)) (fun _ _ h => h)).toExt (fun i hi h => by omega), fun k h => by simp [Value.ownBlock] at h, .inr ⟨e, hd, rfl, rfl⟩⟩
  | exit id => exact hp.elim
  | goto l => exact hp.elim
  | outgrown => exact hp.elim
end Go.Proofs.YtoncdfpohdchgaaDoor
