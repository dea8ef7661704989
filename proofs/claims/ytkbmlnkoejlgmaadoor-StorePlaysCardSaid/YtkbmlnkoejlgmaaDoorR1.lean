/- Several texts as one: Xm, Xn, Xo, Xp, Xq, Xr, Xs. -/
import Derived.Test.YtkbmlnkoejlgmaaDoorXl
set_option linter.unusedSimpArgs false
set_option linter.unusedVariables false
/- The reference's store: Find, Get, Size, walked. No condition. -/
namespace Go.Fw
section
variable {w : World} {a : Addr} {u v : Value} (h : Mem w a [u, v])
include h
theorem Mem.recensionref11Store0 : w.cell? (a.add 0) = some u := h.cell 0 rfl
theorem Mem.recensionref11Store1 : w.cell? (a.add 1) = some v := h.cell 1 rfl
end
theorem mfind_absentG {α β : Type} [DecidableEq α] {key : β → α} {d : α} : ∀ {l : List β} {i : Nat}, (∀ e ∈ l, key e ≠ d) → mfind key d l i = none
  | [], _, _ => rfl
  | x :: r, i, h => by
    rw [mfind, if_neg (h x (by simp))]
    exact mfind_absentG fun e he => h e (by simp [he])
theorem mfind_first {α β : Type} [DecidableEq α] {key : β → α} {d : α} : ∀ {l : List β} {i j : Nat} {e : β}, (∀ k x, k < j → l[k]? = some x → key x ≠ d) → l[j]? = some e → key e = d → mfind key d l i = some (i + j, e)
  | [], _, _, _, _, h, _ => by simp at h
  | x :: r, i, 0, e, _, h, hk => by
    simp at h; subst h
    rw [mfind, if_pos hk, Nat.add_zero]
  | x :: r, i, j + 1, e, hn, h, hk => by
    rw [mfind, if_neg (hn 0 x (by omega) (by simp))]
    rw [mfind_first (i := i + 1) (j := j) (fun k y hkj hy => hn (k + 1) y (by omega) (by simpa using hy)) (by simpa using h) hk]
    rw [show i + 1 + j = i + (j + 1) by omega]
end Go.Fw
namespace Go.Pl
open Go.Fw
abbrev RL := List (Dig × List UInt8)
abbrev rAt (rs : RL) (d : Dig) : Option (Nat × (Dig × List UInt8)) := mfind Prod.fst d rs 0
def rFind (rs : RL) (d : Dig) : Int := match rAt rs d with | some p => (p.1 : Int) | none => -1
def rGetB (rs : RL) (d : Dig) : List UInt8 := match rAt rs d with | some p => p.2.2 | none => []
def rGetI (rs : RL) (d : Dig) : Int := match rAt rs d with | some _ => 0 | none => 5
def rsum (rs : RL) (n : Nat) : Nat := ((rs.take n).map fun p => p.2.length).sum
theorem rsum_succ {rs : RL} {i : Nat} {p : Dig × List UInt8} (h : rs[i]? = some p) : rsum rs (i + 1) = rsum rs i + p.2.length := by
  rw [rsum, take_succ h]; simp [rsum]
theorem rsum_le {rs : RL} {n m : Nat} (h : ∀ p ∈ rs, p.2.length ≤ m) : rsum rs n ≤ rs.length * m := by
  have key : ∀ l : RL, (∀ p ∈ l, p.2.length ≤ m) → (l.map fun p => p.2.length).sum ≤ l.length * m := by
    intro l
    induction l with
    | nil => simp
    | cons x r ih =>
      intro h
      have h1 := h x (by simp)
      have h2 := ih fun p hp => h p (by simp [hp])
      simp only [List.map_cons, List.sum_cons, List.length_cons, Nat.succ_mul]
      omega
  have h1 := key (rs.take n) fun p hp => h p (List.mem_of_mem_take hp)
  have h2 : (rs.take n).length * m ≤ rs.length * m := Nat.mul_le_mul_right _ (by rw [List.length_take]; omega)
  exact Nat.le_trans h1 h2
end Go.Pl
namespace Go.Proofs.YtkbmlnkoejlgmaaDoor
open Go.RowKit Go.Fw Go.Pl Go.Sort
abbrev TRS : TypeId := 48
theorem fo_recensionref11Store0 : FieldOff Tryd.prog TRS 0 0 := ⟨_, _, 1, Tryd.underlying48, rfl, by kernel_rfl, by decide, rfl⟩
theorem fo_recensionref11Store1 : FieldOff Tryd.prog TRS 1 1 := ⟨_, _, 1, Tryd.underlying48, rfl, by kernel_rfl, by decide, rfl⟩
/-- The reference's store at g, with its two lists, holds these. -/
structure RAt (w : World) (g : Nat) (u v : Value) (rs : RL) : Prop where
  blk : Blk w g TRS [u, v]
  ids : Own w TDg 32 u (flatD (rs.map Prod.fst))
  objs : Own w TStr 1 v (flatS (rs.map Prod.snd))
  nu : ∀ k, u.ownBlock = some k → k ≠ g ∧ v.ownBlock ≠ some k
  nv : ∀ k, v.ownBlock = some k → k ≠ g
  few : rs.length ≤ 500
  short : ∀ p ∈ rs, p.2.length ≤ 131072
section
variable {w w' : World} {g : Nat} {u v : Value} {rs : RL} {S : Nat → Prop}
theorem RAt.chg (h : RAt w g u v rs) (hc : Chg S w w') (hg : ¬ S g) (hu : ∀ k, u.ownBlock = some k → ¬ S k) (hv : ∀ k, v.ownBlock = some k → ¬ S k) : RAt w' g u v rs where
  blk := h.blk.chg hc hg
  ids := h.ids.chg hc hu
  objs := h.objs.chg hc hv
  nu := h.nu
  nv := h.nv
  few := h.few
  short := h.short
theorem RAt.ext (h : RAt w g u v rs) (hc : Ext w w') : RAt w' g u v rs := h.chg hc (fun f => f) (fun _ _ f => f) (fun _ _ f => f)
theorem RAt.sum (h : RAt w g u v rs) (n : Nat) : rsum rs n ≤ 65536000 := by
  have h1 := rsum_le (n := n) h.short
  have h2 : rs.length * 131072 ≤ 500 * 131072 := Nat.mul_le_mul_right _ h.few
  omega
end
theorem rs_fst {rs : RL} {i : Nat} {d : Dig} {b : List UInt8} (h : rs[i]? = some (d, b)) : (rs.map Prod.fst)[i]? = some d := by rw [List.getElem?_map, h]; rfl
theorem rs_snd {rs : RL} {i : Nat} {d : Dig} {b : List UInt8} (h : rs[i]? = some (d, b)) : (rs.map Prod.snd)[i]? = some b := by rw [List.getElem?_map, h]; rfl

theorem rFind_any (g : Nat) (rs : RL) (d : Dig) (w : World) (hR : ∃ u v, RAt w g u v rs) : Calls Tryd.prog 43 #[.pointer (some ⟨g, 0, none⟩), digV d] w (Ret fun v w' => v = .int .i64 (rFind rs d) ∧ Ext w w') := by
  obtain ⟨u, v, hR⟩ := hR
  obtain ⟨A, m, c, rfl⟩ := hR.ids.lens
  obtain ⟨B, n, cb, rfl⟩ := hR.objs.lens
  have hm := (Own.len digC_length (by decide) hR.ids).1
  have hn := (Own.len strC_length (by decide) hR.objs).1
  rw [List.length_map] at hm hn
  have hfew := hR.few
  have hB0 := hR.blk
  refine calls_of_CW 25 [4] [(0, .pointer (some ⟨g, 0, none⟩)), (1, digV d)] Tryd.func43 rfl rfl rfl (by simp) args2 ?_
  have hE : Ext w w := Chg.refl
  refine CW.seq fun K1 hK1 => ?_
  refine CW.region ?_   -- region 0
  refine WL.box rfl rfl (by decide) fun g3 w1 hx1 hg3 hB3 => ?_   -- t3 := box 28 t1
  have hlt3 := hB3.lt; have hz1 := hx1.size
  have hM3 := hB3.mem; have hz1 := hx1.size; have hE := hE.thenExt hx1; have hR := hR.ext hx1; have hB0 := hB0.ext hx1
  refine WL.val (Y.assign rfl) (by decide) ?_   -- t4 := assign c(0:i64)
  refine WL.nil ?_
  refine hK1 _ _ ?_; try clear hK1 K1
  refine CW.seq fun K2 hK2 => ?_
  refine CW.seq fun K3 hK3 => ?_
  refine CW.region ?_   -- region 1
  refine WL.val (Y.assign rfl) (by decide) ?_   -- t5 := assign c(0:i64)
  refine WL.nil ?_
  refine hK3 _ _ ?_; try clear hK3 K3
  refine CW.block ?_   -- block 0
  refine CW.loop (X := Nat) (fun x => [(0, .pointer (some ⟨g, 0, none⟩)), (3, .pointer (some ⟨g3, 0, none⟩)), (5, .int .i64 (x : Int))]) (fun x w0 => x ≤ m ∧ (∀ k e, k < x → rs[k]? = some e → e.1 ≠ d) ∧ Ext w1 w0) (fun x => m - x) 0 (by repeat (first | exact Fr.le.nil | refine Fr.le.cons rfl ?_)) ⟨Nat.zero_le _, (fun k e h => by omega), Chg.refl⟩ ?_
  intro x w2 hl2
  obtain ⟨hx, hno, hL⟩ := hl2
  have hE := hE.thenExt hL
  have hR := hR.ext hL
  have hB0 := hB0.ext hL
  have hB3 := hB3.ext hL
  refine CW.seq fun K4 hK4 => ?_
  refine CW.seq fun K5 hK5 => ?_
  refine CW.region ?_   -- region 2
  refine WL.val (Y.move rfl) (by decide) ?_   -- t6 := move t5
  refine WL.val (Y.move rfl) (by decide) ?_   -- t7 := move t0
  refine WL.val (Y.nilCheck rfl) (by decide) ?_   -- t8 := nilCheck t7
  refine WL.val (Y.fieldAddr fo_recensionref11Store0 rfl) (by decide) ?_   -- t9 := fieldAddr 48 t8 0
  refine WL.val (Y.load1 Tryd.underlying46 rfl hB0.mem.recensionref11Store0 rfl) (by decide) ?_   -- t10 := load 46 t9
  refine WL.val (Y.len_slice Tryd.underlying46 rfl) (by decide) ?_   -- t11 := call len(t10) : 46
  refine WL.val (Y.lss rfl rfl) (by decide) ?_   -- t12 := binOp lss 3 t6 t11 3
  refine WL.nil ?_
  refine hK5 _ _ ?_; try clear hK5 K5
  first | refine CW.condD rfl (fun ht6 => ?_) (fun ht6 => ?_) | refine CW.condND rfl (fun ht6 => ?_) (fun ht6 => ?_) | refine CW.condN rfl (fun ht6 => ?_) (fun ht6 => ?_) | refine CW.cond rfl (fun ht6 => ?_) (fun ht6 => ?_)
  · -- then
    refine CW.skip ?_
    refine hK4 _ _ ?_; try clear hK4 K4
    refine CW.seq fun K7 hK7 => ?_
    refine CW.block ?_   -- block 1
    refine CW.seq fun K8 hK8 => ?_
    obtain ⟨⟨dx, bx⟩, hex⟩ : ∃ e, rs[x]? = some e := ⟨_, List.getElem?_eq_getElem (by omega)⟩
    obtain ⟨a, rfl, hma⟩ := (hR.ids.sl digC_length (by decide)).at (rs_fst hex)
    refine CW.quiet (fun wq => Ext w2 wq) (by kernel_rfl) (by kernel_rfl) Chg.drew ?_
    refine QL.val (fun wq hq => Y.move rfl) (by decide) ?_   -- t15 := move t0
    refine QL.val (fun wq hq => Y.nilCheck rfl) (by decide) ?_   -- t16 := nilCheck t15
    refine QL.val (fun wq hq => Y.fieldAddr fo_recensionref11Store0 rfl) (by decide) ?_   -- t17 := fieldAddr 48 t16 0
    refine QL.val (fun wq hq => Y.load1 Tryd.underlying46 rfl (hB0.ext hq).mem.recensionref11Store0 rfl) (by decide) ?_   -- t18 := load 46 t17
    refine QL.val (fun wq hq => Y.move rfl) (by decide) ?_   -- t19 := move t5
    refine QL.val (fun wq hq => Y.indexAddrN Tryd.underlying46 rfl rfl sz0_apiDigest (by omega)) (by decide) ?_   -- t20 := indexAddr 46 t18 t19
    refine QL.val (fun wq hq => Y.load Tryd.underlying28 rfl (hma.ext hq) (sz_apiDigest _) rfl) (by decide) ?_   -- t21 := load 28 t20
    refine QL.val (fun wq hq => Y.load Tryd.underlying28 rfl (hB3.ext hq).mem (sz_apiDigest _) rfl) (by decide) ?_   -- t22 := load 28 t3
    refine QL.val (fun wq hq => Y.eql_apiDigest rfl rfl) (by decide) ?_   -- t23 := binOp eql 28 t21 t22 28
    refine QL.nil fun w3 hx3 => ?_
    have hz3 := hx3.size
    have hE := hE.thenExt hx3
    have hR := hR.ext hx3
    have hB0 := hB0.ext hx3
    have hB3 := hB3.ext hx3
    refine hK8 _ _ ?_; try clear hK8 K8
    first | refine CW.condD rfl (fun ht9 => ?_) (fun ht9 => ?_) | refine CW.condND rfl (fun ht9 => ?_) (fun ht9 => ?_) | refine CW.condN rfl (fun ht9 => ?_) (fun ht9 => ?_) | refine CW.cond rfl (fun ht9 => ?_) (fun ht9 => ?_)
    · -- then
      refine CW.seq fun K10 hK10 => ?_
      refine CW.region ?_   -- region 5
      refine WL.val (Y.move rfl) (by decide) ?_   -- t24 := move t5
      refine WL.val (Y.assign rfl) (by decide) ?_   -- t4 := assign t24
      refine WL.nil ?_
      refine hK10 _ _ ?_; try clear hK10 K10
      refine CW.ret ⟨_, rfl, ?_⟩
      have hdx : dx = d := by assumption
      exact ⟨by rw [rFind, show rAt rs d = some (0 + x, (dx, bx)) from mfind_first hno hex hdx]; simp, hE⟩
    -- else
    refine CW.skip ?_
    refine hK7 _ _ ?_; try clear hK7 K7
    refine CW.region ?_   -- region 3
    refine WL.val (Y.move rfl) (by decide) ?_   -- t13 := move t5
    refine WL.val (Y.add rfl rfl ⟨by omega, by omega⟩) (by decide) ?_   -- t14 := binOp add 3 t13 c(1:i64) 3
    refine WL.val (Y.assign rfl) (by decide) ?_   -- t5 := assign t14
    refine WL.nil ?_
    have hdx : ¬ dx = d := by assumption
    refine ⟨x + 1, by show m - (x + 1) < m - x; omega, (by repeat (first | exact Fr.le.nil | refine Fr.le.cons rfl ?_)), by show x + 1 ≤ m; omega, fun k e hk he => ?_, hL.thenExt hx3⟩
    by_cases h : k = x
    · subst h; rw [hex] at he; cases he; exact hdx
    · exact hno k e (by omega) he
  -- else
  refine CW.exit ?_   -- exit 0
  refine hK2 _ _ ?_; try clear hK2 K2
  refine CW.seq fun K11 hK11 => ?_
  refine CW.region ?_   -- region 6
  refine WL.val (Y.assign rfl) (by decide) ?_   -- t4 := assign c(-1:i64)
  refine WL.nil ?_
  refine hK11 _ _ ?_; try clear hK11 K11
  refine CW.ret ⟨_, rfl, ?_⟩
  exact ⟨by rw [rFind, show rAt rs d = none from mfind_absentG fun e he => by obtain ⟨k, hk⟩ := List.mem_iff_getElem?.1 he; exact hno k e (by have := (List.getElem?_eq_some_iff.1 hk).1; omega) hk], hE⟩
theorem rGet_any (g : Nat) (rs : RL) (d : Dig) (w : World) (hR : ∃ u v, RAt w g u v rs) : Calls Tryd.prog 31 #[.pointer (some ⟨g, 0, none⟩), digV d] w (Ret fun v w' => v = .tuple #[.string (bs (rGetB rs d)), .int .i64 (rGetI rs d)] ∧ Ext w w') := by
  obtain ⟨u, v, hR⟩ := hR
  obtain ⟨A, m, c, rfl⟩ := hR.ids.lens
  obtain ⟨B, n, cb, rfl⟩ := hR.objs.lens
  have hm := (Own.len digC_length (by decide) hR.ids).1
  have hn := (Own.len strC_length (by decide) hR.objs).1
  rw [List.length_map] at hm hn
  have hfew := hR.few
  have hB0 := hR.blk
  refine calls_of_CW 19 [4, 5] [(0, .pointer (some ⟨g, 0, none⟩)), (1, digV d)] Tryd.func31 rfl rfl rfl (by simp) args2 ?_
  have hE : Ext w w := Chg.refl
  refine CW.seq fun K1 hK1 => ?_
  refine CW.region ?_   -- region 0
  refine WL.box rfl rfl (by decide) fun g3 w1 hx1 hg3 hB3 => ?_   -- t3 := box 28 t1
  have hlt3 := hB3.lt; have hz1 := hx1.size
  have hM3 := hB3.mem; have hz1 := hx1.size; have hE := hE.thenExt hx1; have hR := hR.ext hx1; have hB0 := hB0.ext hx1
  refine WL.val (Y.assign rfl) (by decide) ?_   -- t4 := assign c(STR)
  refine WL.val (Y.assign rfl) (by decide) ?_   -- t5 := assign c(0:i64)
  refine WL.nil ?_
  refine hK1 _ _ ?_; try clear hK1 K1
  refine CW.seq fun K2 hK2 => ?_
  refine CW.region ?_   -- region 1
  refine WL.val (Y.move rfl) (by decide) ?_   -- t7 := move t0
  refine WL.val (Y.load Tryd.underlying28 rfl hB3.mem (sz_apiDigest _) rfl) (by decide) ?_   -- t8 := load 28 t3
  refine WL.call Tryd.func43 rfl rfl rfl (rFind_any g rs d _ ⟨_, _, hR⟩) (by simp) ?_; rintro v w2 ⟨rfl, hx2⟩; have hz2 := hx2.size; have hE := hE.thenExt hx2; have hR := hR.ext hx2; have hB0 := hB0.ext hx2; have hB3 := hB3.ext hx2   -- t9 := call F43(t7, t8) : 45,28
  refine WL.val (Y.assign rfl) (by decide) ?_   -- t6 := assign t9
  refine WL.nil ?_
  refine hK2 _ _ ?_; try clear hK2 K2
  refine CW.seq fun K3 hK3 => ?_
  refine CW.seq fun K4 hK4 => ?_
  refine CW.region ?_   -- region 2
  refine WL.val (Y.move rfl) (by decide) ?_   -- t10 := move t6
  refine WL.val (Y.lss rfl rfl) (by decide) ?_   -- t11 := binOp lss 3 t10 c(0:i64) 3
  refine WL.nil ?_
  refine hK4 _ _ ?_; try clear hK4 K4
  first | refine CW.condD rfl (fun ht5 => ?_) (fun ht5 => ?_) | refine CW.condND rfl (fun ht5 => ?_) (fun ht5 => ?_) | refine CW.condN rfl (fun ht5 => ?_) (fun ht5 => ?_) | refine CW.cond rfl (fun ht5 => ?_) (fun ht5 => ?_)
  · -- then
    refine CW.seq fun K6 hK6 => ?_
    refine CW.region ?_   -- region 3
    refine WL.val (Y.assign rfl) (by decide) ?_   -- t4 := assign c(STR)
    refine WL.val (Y.assign rfl) (by decide) ?_   -- t5 := assign c(5:i64)
    refine WL.nil ?_
    refine hK6 _ _ ?_; try clear hK6 K6
    refine CW.ret ⟨_, rfl, ?_⟩
    have hlt : rFind rs d < 0 := by assumption
    have hno : rAt rs d = none := by
      cases h : rAt rs d with
      | none => rfl
      | some p => rw [rFind, h] at hlt; dsimp only at hlt; omega
    exact ⟨by rw [rGetB, rGetI, hno]; rfl, hE⟩
  -- else
  refine CW.skip ?_
  refine hK3 _ _ ?_; try clear hK3 K3
  refine CW.seq fun K7 hK7 => ?_
  obtain ⟨⟨j, dj, bj⟩, hj⟩ : ∃ p, rAt rs d = some p := by
    cases h : rAt rs d with
    | some p => exact ⟨p, rfl⟩
    | none => exact absurd (show rFind rs d < 0 by rw [rFind, h]; decide) (by assumption)
  have hfj : rFind rs d = (j : Int) := by rw [rFind, hj]
  obtain ⟨_, hjr, _⟩ := mfind_some hj
  rw [Nat.sub_zero] at hjr
  have hjl := (List.getElem?_eq_some_iff.1 hjr).1
  obtain ⟨a, rfl, hma⟩ := (hR.objs.sl strC_length (by decide)).at (rs_snd hjr)
  rw [hfj]
  refine CW.region ?_   -- region 4
  refine WL.val (Y.move rfl) (by decide) ?_   -- t12 := move t0
  refine WL.val (Y.nilCheck rfl) (by decide) ?_   -- t13 := nilCheck t12
  refine WL.val (Y.fieldAddr fo_recensionref11Store1 rfl) (by decide) ?_   -- t14 := fieldAddr 48 t13 1
  refine WL.val (Y.load1 Tryd.underlying38 rfl hB0.mem.recensionref11Store1 rfl) (by decide) ?_   -- t15 := load 38 t14
  refine WL.val (Y.move rfl) (by decide) ?_   -- t16 := move t6
  refine WL.val (Y.indexAddrN Tryd.underlying38 rfl rfl sz0_string (by omega)) (by decide) ?_   -- t17 := indexAddr 38 t15 t16
  refine WL.val (Y.load1 Tryd.underlying9 rfl hma.cell0 rfl) (by decide) ?_   -- t18 := load 9 t17
  refine WL.val (Y.assign rfl) (by decide) ?_   -- t4 := assign t18
  refine WL.val (Y.assign rfl) (by decide) ?_   -- t5 := assign c(0:i64)
  refine WL.nil ?_
  refine hK7 _ _ ?_; try clear hK7 K7
  refine CW.ret ⟨_, rfl, ?_⟩
  exact ⟨by rw [rGetB, rGetI, hj], hE⟩
theorem rSize_any (g : Nat) (rs : RL) (w : World) (hR : ∃ u v, RAt w g u v rs) : Calls Tryd.prog 34 #[.pointer (some ⟨g, 0, none⟩)] w (Ret fun v w' => v = .int .i64 (rsum rs rs.length : Int) ∧ Ext w w') := by
  obtain ⟨u, v, hR⟩ := hR
  obtain ⟨A, m, c, rfl⟩ := hR.ids.lens
  obtain ⟨B, n, cb, rfl⟩ := hR.objs.lens
  have hm := (Own.len digC_length (by decide) hR.ids).1
  have hn := (Own.len strC_length (by decide) hR.objs).1
  rw [List.length_map] at hm hn
  have hfew := hR.few
  have hB0 := hR.blk
  refine calls_of_CW 25 [2] [(0, .pointer (some ⟨g, 0, none⟩))] Tryd.func34 rfl rfl rfl (by simp) args1 ?_
  have hE : Ext w w := Chg.refl
  refine CW.seq fun K1 hK1 => ?_
  refine CW.region ?_   -- region 0
  refine WL.val (Y.assign rfl) (by decide) ?_   -- t2 := assign c(0:i64)
  refine WL.nil ?_
  refine hK1 _ _ ?_; try clear hK1 K1
  refine CW.seq fun K2 hK2 => ?_
  refine CW.region ?_   -- region 1
  refine WL.val (Y.assign rfl) (by decide) ?_   -- t3 := assign c(0:i64)
  refine WL.nil ?_
  refine hK2 _ _ ?_; try clear hK2 K2
  refine CW.seq fun K3 hK3 => ?_
  refine CW.seq fun K4 hK4 => ?_
  refine CW.region ?_   -- region 2
  refine WL.val (Y.assign rfl) (by decide) ?_   -- t4 := assign c(0:i64)
  refine WL.nil ?_
  refine hK4 _ _ ?_; try clear hK4 K4
  refine CW.block ?_   -- block 0
  refine CW.loop (X := Nat) (fun x => [(0, .pointer (some ⟨g, 0, none⟩)), (3, .int .i64 (rsum rs x : Int)), (4, .int .i64 (x : Int))]) (fun x w0 => x ≤ n ∧ Ext w w0) (fun x => n - x) 0 (by repeat (first | exact Fr.le.nil | refine Fr.le.cons rfl ?_)) ⟨Nat.zero_le _, Chg.refl⟩ ?_
  intro x w1 hl1
  obtain ⟨hx, hL⟩ := hl1
  have hE := hE.thenExt hL
  have hR := hR.ext hL
  have hB0 := hB0.ext hL
  refine CW.seq fun K5 hK5 => ?_
  refine CW.seq fun K6 hK6 => ?_
  refine CW.region ?_   -- region 3
  refine WL.val (Y.move rfl) (by decide) ?_   -- t5 := move t4
  refine WL.val (Y.move rfl) (by decide) ?_   -- t6 := move t0
  refine WL.val (Y.nilCheck rfl) (by decide) ?_   -- t7 := nilCheck t6
  refine WL.val (Y.fieldAddr fo_recensionref11Store1 rfl) (by decide) ?_   -- t8 := fieldAddr 48 t7 1
  refine WL.val (Y.load1 Tryd.underlying38 rfl hB0.mem.recensionref11Store1 rfl) (by decide) ?_   -- t9 := load 38 t8
  refine WL.val (Y.len_slice Tryd.underlying38 rfl) (by decide) ?_   -- t10 := call len(t9) : 38
  refine WL.val (Y.lss rfl rfl) (by decide) ?_   -- t11 := binOp lss 3 t5 t10 3
  refine WL.nil ?_
  refine hK6 _ _ ?_; try clear hK6 K6
  first | refine CW.condD rfl (fun ht7 => ?_) (fun ht7 => ?_) | refine CW.condND rfl (fun ht7 => ?_) (fun ht7 => ?_) | refine CW.condN rfl (fun ht7 => ?_) (fun ht7 => ?_) | refine CW.cond rfl (fun ht7 => ?_) (fun ht7 => ?_)
  · -- then
    refine CW.skip ?_
    refine hK5 _ _ ?_; try clear hK5 K5
    refine CW.seq fun K8 hK8 => ?_
    refine CW.block ?_   -- block 1
    obtain ⟨⟨dx, bx⟩, hex⟩ : ∃ e, rs[x]? = some e := ⟨_, List.getElem?_eq_getElem (by omega)⟩
    obtain ⟨a, rfl, hma⟩ := (hR.objs.sl strC_length (by decide)).at (rs_snd hex)
    have hbs := bs_size bx
    have hbx : bx.length ≤ 131072 := hR.short _ (List.mem_of_getElem? hex)
    have hsx := hR.sum x
    have hsu := rsum_succ hex
    dsimp only at hsu
    refine CW.region ?_   -- region 5
    refine WL.val (Y.move rfl) (by decide) ?_   -- t14 := move t3
    refine WL.val (Y.move rfl) (by decide) ?_   -- t15 := move t0
    refine WL.val (Y.nilCheck rfl) (by decide) ?_   -- t16 := nilCheck t15
    refine WL.val (Y.fieldAddr fo_recensionref11Store1 rfl) (by decide) ?_   -- t17 := fieldAddr 48 t16 1
    refine WL.val (Y.load1 Tryd.underlying38 rfl hB0.mem.recensionref11Store1 rfl) (by decide) ?_   -- t18 := load 38 t17
    refine WL.val (Y.move rfl) (by decide) ?_   -- t19 := move t4
    refine WL.val (Y.indexAddrN Tryd.underlying38 rfl rfl sz0_string (by omega)) (by decide) ?_   -- t20 := indexAddr 38 t18 t19
    refine WL.val (Y.load1 Tryd.underlying9 rfl hma.cell0 rfl) (by decide) ?_   -- t21 := load 9 t20
    refine WL.val (Y.len_string Tryd.underlying9 rfl) (by decide) ?_   -- t22 := call len(t21) : 9
    refine WL.val (Y.add rfl rfl ⟨by omega, by omega⟩) (by decide) ?_   -- t23
    rw [show ((rsum rs x : Nat) : Int) + ((bs bx).size : Int) = ((rsum rs (x + 1) : Nat) : Int) from by omega]
    refine WL.val (Y.assign rfl) (by decide) ?_   -- t3 := assign t23
    refine WL.nil ?_
    refine hK8 _ _ ?_; try clear hK8 K8
    refine CW.region ?_   -- region 4
    refine WL.val (Y.move rfl) (by decide) ?_   -- t12 := move t4
    refine WL.val (Y.add rfl rfl ⟨by omega, by omega⟩) (by decide) ?_   -- t13 := binOp add 3 t12 c(1:i64) 3
    refine WL.val (Y.assign rfl) (by decide) ?_   -- t4 := assign t13
    refine WL.nil ?_
    exact ⟨x + 1, by show n - (x + 1) < n - x; omega, (by repeat (first | exact Fr.le.nil | refine Fr.le.cons rfl ?_)), by show x + 1 ≤ n; omega, hL⟩
  -- else
  refine CW.exit ?_   -- exit 0
  refine hK3 _ _ ?_; try clear hK3 K3
  refine CW.seq fun K9 hK9 => ?_
  refine CW.region ?_   -- region 6
  refine WL.val (Y.move rfl) (by decide) ?_   -- t24 := move t3
  refine WL.val (Y.assign rfl) (by decide) ?_   -- t2 := assign t24
  refine WL.nil ?_
  refine hK9 _ _ ?_; try clear hK9 K9
  refine CW.ret ⟨_, rfl, ?_⟩
  exact ⟨by rw [show rs.length = x by omega], hE⟩
end Go.Proofs.YtkbmlnkoejlgmaaDoor

/- The reference's store: Put, walked. No condition. -/
namespace Go.Fw
theorem Y.neq_strD {P : Program} {n : NN} {fr : Fr} {w : World} {ty : TypeId} {x y : Operand} {p q : List UInt8} {t t' : TypeId} (hx : ev fr x = some (.string (bs p))) (hy : ev fr y = some (.string (bs q))) :
    Yw P n fr (.binOp .neq t x y t') ty w (.bool (decide (p ≠ q))) w := by
  have := Y.neq_string (P := P) (n := n) (w := w) (ty := ty) (t := t) (t' := t') hx hy
  rw [bs_toList, bs_toList] at this
  rwa [show (!(p == q)) = decide (p ≠ q) by by_cases h : p = q <;> simp [h]] at this
end Go.Fw
namespace Go.Pl
open Go.Fw
def rPutE (rs : RL) (b : List UInt8) : Int := if 131072 < b.length then 3 else if 0 ≤ rFind rs (shaD b) then (if rGetB rs (shaD b) = b then 0 else 10) else if 500 ≤ rs.length then 14 else 0
def rPutD (rs : RL) (b : List UInt8) : Dig := if rPutE rs b = 0 then shaD b else Dig.zero
def rPutL (rs : RL) (b : List UInt8) : RL := if rPutE rs b = 0 ∧ ¬ 0 ≤ rFind rs (shaD b) then rs ++ [(shaD b, b)] else rs
theorem rPutL_same {rs : RL} {b : List UInt8} (h : rPutE rs b ≠ 0 ∨ 0 ≤ rFind rs (shaD b)) : rPutL rs b = rs := by
  rw [rPutL, if_neg (by rintro ⟨h1, h2⟩; rcases h with h | h; exact h h1; exact h2 h)]
theorem rPutD_no {rs : RL} {b : List UInt8} (h : rPutE rs b ≠ 0) : rPutD rs b = Dig.zero := if_neg h
theorem rPutD_ok {rs : RL} {b : List UInt8} (h : rPutE rs b = 0) : rPutD rs b = shaD b := if_pos h
theorem rFind_pos {rs : RL} {d : Dig} (h : 0 ≤ rFind rs d) : ∃ j e c, rAt rs d = some (j, e, c) ∧ rFind rs d = (j : Int) ∧ rGetB rs d = c := by
  cases hp : rAt rs d with
  | some p => obtain ⟨j, e, c⟩ := p; exact ⟨j, e, c, rfl, by rw [rFind, hp], by rw [rGetB, hp]⟩
  | none => rw [rFind, hp] at h; exact absurd h (by decide)
end Go.Pl
namespace Go.Proofs.YtkbmlnkoejlgmaaDoor
open Go.RowKit Go.Fw Go.Pl Go.Sort

set_option maxHeartbeats 2000000 in
theorem rPut_any (g : Nat) (u v : Value) (rs : RL) (b : List UInt8) (w : World) (hR : RAt w g u v rs) : Calls Tryd.prog 30 #[.pointer (some ⟨g, 0, none⟩), .string (bs b)] w (Ret fun r w' => r = .tuple #[digV (rPutD rs b), .int .i64 (rPutE rs b)] ∧ (∃ u' v', RAt w' g u' v' (rPutL rs b) ∧ (∀ k, u'.ownBlock = some k → u.ownBlock = some k ∨ w.heap.size ≤ k) ∧ (∀ k, v'.ownBlock = some k → v.ownBlock = some k ∨ w.heap.size ≤ k)) ∧ Chg (fun k => k = g ∨ u.ownBlock = some k ∨ v.ownBlock = some k) w w') := by
  obtain ⟨A, m, c, rfl⟩ := hR.ids.lens
  obtain ⟨B, n, cb, rfl⟩ := hR.objs.lens
  have hm := (Own.len digC_length (by decide) hR.ids).1
  have hn := (Own.len strC_length (by decide) hR.objs).1
  rw [List.length_map] at hm hn
  have hfew := hR.few
  have hB0 := hR.blk
  have hgl := hB0.lt
  have hul := hR.ids.lt
  have hvl := hR.objs.lt
  have hnu := hR.nu
  have hnv := hR.nv
  have hbs := bs_size b
  obtain ⟨id, hid, hzd, _⟩ := info_apiDigest
  refine calls_of_CWct 63 4 32 [5] [(0, .pointer (some ⟨g, 0, none⟩)), (1, .string (bs b))] Tryd.func30 rfl rfl rfl Tryd.underlying28 rfl (by kernel_rfl) (by simp) args2 ?_
  have hE : Chg (fun k => k = g ∨ (Value.slice A m c).ownBlock = some k ∨ (Value.slice B n cb).ownBlock = some k) w w := Chg.refl
  refine CW.seq fun K1 hK1 => ?_
  refine CW.region ?_   -- region 0
  refine WL.alloc (hid) (hzd) rfl (by decide) fun g4 w1 hx1 hg4 hB4 => ?_   -- t4 := alloc 28
  have hlt4 := hB4.lt; have hz1 := hx1.size
  have hM4 := hB4.mem; have hz1 := hx1.size; have hE := hE.thenExt hx1; have hR := hR.ext hx1; have hB0 := hB0.ext hx1
  refine WL.val (Y.assign rfl) (by decide) ?_   -- t5 := assign c(0:i64)
  refine WL.nil ?_
  refine hK1 _ _ ?_; try clear hK1 K1
  refine CW.seq fun K2 hK2 => ?_
  refine CW.seq fun K3 hK3 => ?_
  refine CW.region ?_   -- region 1
  refine WL.val (Y.move rfl) (by decide) ?_   -- t8 := move t1
  refine WL.val (Y.len_string Tryd.underlying9 rfl) (by decide) ?_   -- t9 := call len(t8) : 9
  refine WL.val (Y.gtr rfl rfl) (by decide) ?_   -- t10 := binOp gtr 3 t9 c(131072:i64) 3
  refine WL.nil ?_
  refine hK3 _ _ ?_; try clear hK3 K3
  first | refine CW.condD rfl (fun ht4 => ?_) (fun ht4 => ?_) | refine CW.condND rfl (fun ht4 => ?_) (fun ht4 => ?_) | refine CW.condN rfl (fun ht4 => ?_) (fun ht4 => ?_) | refine CW.cond rfl (fun ht4 => ?_) (fun ht4 => ?_)
  · -- then
    refine CW.seq fun K5 hK5 => ?_
    refine CW.region ?_   -- region 2
    refine WL.val (Y.build0 (build_apiDigest _)) (by decide) ?_   -- t11 := build 28 []
    refine WL.store (g := g4) (pre := []) (old := digC Dig.zero) (post := []) (new := digC Dig.zero) rfl rfl rfl rfl (sz_apiDigest _) (by simpa using hB4) (by first | rfl | (simp [digC_length, opC_length]; done) | (simp only [digC_length, opC_length]; omega)) (one_digC) (fun w2 hc2 hB2_ => ?_)   -- _ := store 28 t4 t11
    have hz2 := hc2.size; have hE := hE.stepO hc2 (fun k h => (by show (k = g ∨ (Value.slice A m c).ownBlock = some k ∨ (Value.slice B n cb).ownBlock = some k) ∨ _; omega)); have hR := hR.chg hc2 (fun h => by omega) (fun k hk h => by have := hul k hk; omega) (fun k hk h => by have := hvl k hk; omega); have hB0 := hB0.chg hc2 (fun h => by omega)
    have hB4 : Blk w2 g4 TDi (digC Dig.zero) := by simpa using hB2_
    refine WL.val (Y.assign rfl) (by decide) ?_   -- t5 := assign c(3:i64)
    refine WL.nil ?_
    refine hK5 _ _ ?_; try clear hK5 K5
    refine CW.ret ?_
    have he : rPutE rs b = 3 := by rw [rPutE, if_pos (by omega)]
    exact ⟨_, _, _, rfl, hB4.mem, digC_length _, rfl, by rw [rPutD_no (by rw [he]; decide), he], ⟨_, _, by rw [rPutL_same (.inl (by rw [he]; decide))]; exact hR, fun k h => .inl h, fun k h => .inl h⟩, hE⟩
  -- else
  refine CW.skip ?_
  refine hK2 _ _ ?_; try clear hK2 K2
  refine CW.seq fun K6 hK6 => ?_
  refine CW.region ?_   -- region 3
  refine WL.val (Y.move rfl) (by decide) ?_   -- t12 := move t1
  refine WL.st (St.strBytes Tryd.underlying9 Tryd.underlying26 Tryd.underlying5 rfl (by omega)) (by decide) fun v13 w3 hR3 => ?_   -- t13 := convert 9 26 t12
  obtain ⟨hO13, hx3, hf13⟩ := hR3
  have hz3 := hx3.size
  have hE := hE.thenExt hx3
  have hR := hR.ext hx3
  have hB0 := hB0.ext hx3
  have hB4 := hB4.ext hx3
  rw [bs_toList] at hO13
  refine WL.call Tryd.func29 rfl rfl rfl (rSum_any _ b _ hO13.by (by omega)) (by simp) ?_; rintro v w4 ⟨rfl, hx4⟩; have hz4 := hx4.size; have hE := hE.thenExt hx4; have hR := hR.ext hx4; have hB0 := hB0.ext hx4; have hB4 := hB4.ext hx4   -- t14 := call F29(t13) : 26
  refine as_apiDigest rfl (by simp) (by decide) fun g6 w5 hx5 hg6 hB6 => ?_   -- alloc 28; store 28 t6 t14
  have hlt6 := hB6.lt; have hz5 := hx5.size
  have hM6 := hB6.mem; have hz5 := hx5.size; have hE := hE.thenExt hx5; have hR := hR.ext hx5; have hB0 := hB0.ext hx5; have hB4 := hB4.ext hx5
  refine WL.nil ?_
  refine hK6 _ _ ?_; try clear hK6 K6
  refine CW.seq fun K7 hK7 => ?_
  refine CW.region ?_   -- region 4
  refine WL.val (Y.move rfl) (by decide) ?_   -- t15 := move t0
  refine WL.val (Y.load Tryd.underlying28 rfl hB6.mem (sz_apiDigest _) rfl) (by decide) ?_   -- t16 := load 28 t6
  refine WL.call Tryd.func43 rfl rfl rfl (rFind_any g rs (shaD b) _ ⟨_, _, hR⟩) (by simp) ?_; rintro v w6 ⟨rfl, hx6⟩; have hz6 := hx6.size; have hE := hE.thenExt hx6; have hR := hR.ext hx6; have hB0 := hB0.ext hx6; have hB4 := hB4.ext hx6; have hB6 := hB6.ext hx6   -- t17 := call F43(t15, t16) : 45,28
  refine WL.val (Y.assign rfl) (by decide) ?_   -- t7 := assign t17
  refine WL.nil ?_
  refine hK7 _ _ ?_; try clear hK7 K7
  refine CW.seq fun K8 hK8 => ?_
  refine CW.seq_test 30 (0 ≤ rFind rs (shaD b) ∧ rGetB rs (shaD b) ≠ b) ?_ ?_
  · refine CW.region ?_
    refine WL.val (Y.move rfl) (by decide) ?_   -- t18 := move t7
    refine WL.val (Y.geq rfl rfl) (by decide) ?_   -- t19 := binOp geq 3 t18 c(0:i64) 3
    refine WL.val (Y.move rfl) (by decide) ?_   -- t20 := move t19
    first | refine WL.casesD (d := 20) rfl (fun hg20 => ?_) (fun hg20 => ?_) | refine WL.casesND (d := 20) rfl (fun hg20 => ?_) (fun hg20 => ?_) | refine WL.cases (d := 20) rfl (fun hg20 => ?_) (fun hg20 => ?_)
    · -- t20 = T
      obtain ⟨j, dj, bj, hj, hfj, hgj⟩ := rFind_pos (rs := rs) (d := shaD b) (by assumption)
      obtain ⟨_, hjr, _⟩ := mfind_some hj
      rw [Nat.sub_zero] at hjr
      have hjl := (List.getElem?_eq_some_iff.1 hjr).1
      obtain ⟨a, rfl, hma⟩ := (hR.objs.sl strC_length (by decide)).at (rs_snd hjr)
      rw [hfj]
      refine WL.gval rfl rfl (Y.move rfl) (by decide) ?_   -- t21
      refine WL.gval rfl rfl (Y.nilCheck rfl) (by decide) ?_   -- t22 := nilCheck t21 [if 2=true]
      refine WL.gval rfl rfl (Y.fieldAddr fo_recensionref11Store1 rfl) (by decide) ?_   -- t23 := fieldAddr 48 t22 1 [if 2=true]
      refine WL.gval rfl rfl (Y.load1 Tryd.underlying38 rfl hB0.mem.recensionref11Store1 rfl) (by decide) ?_   -- t24 := load 38 t23 [if 2=true]
      refine WL.gval rfl rfl (Y.move rfl) (by decide) ?_   -- t25 := move t7 [if 2=true]
      refine WL.gval rfl rfl (Y.indexAddrN Tryd.underlying38 rfl rfl sz0_string (by omega)) (by decide) ?_   -- t26 := indexAddr 38 t24 t25 [if 2=true]
      refine WL.gval rfl rfl (Y.load1 Tryd.underlying9 rfl hma.cell0 rfl) (by decide) ?_   -- t27 := load 9 t26 [if 2=true]
      refine WL.gval rfl rfl (Y.move rfl) (by decide) ?_   -- t28 := move t1 [if 2=true]
      refine WL.gval rfl rfl (Y.neq_strD rfl rfl) (by decide) ?_   -- t29 := binOp neq 9 t27 t28 9 [if 2=true]
      refine WL.val (Y.pick rfl rfl) (by decide) ?_   -- t30 := pick t20 t29 c(false)
      refine WL.nil ⟨⟨_, rfl, ?_⟩, rfl, (by repeat (first | exact Fr.le.refl | refine Fr.le.push rfl ?_))⟩
      first | (simp only [*, Int.natCast_inj, Bool.not_eq_true', decide_eq_false_iff_not, decide_eq_true_eq, not_true_eq_false, not_false_eq_true, true_and, false_and, and_true, and_false, false_or, or_false, true_or, or_true, iff_true, true_iff, iff_false, false_iff]; done) | (simp_all; done) | (refine congrArg Value.bool (Bool.eq_iff_iff.2 ?_); simp_all; done) | (simp_all; omega)
    · -- t20 = F
      refine WL.goff rfl rfl (by decide) ?_   -- t21 := move t0 [if 2=true]
      refine WL.goff rfl rfl (by decide) ?_   -- t22 := nilCheck t21 [if 2=true]
      refine WL.goff rfl rfl (by decide) ?_   -- t23 := fieldAddr 48 t22 1 [if 2=true]
      refine WL.goff rfl rfl (by decide) ?_   -- t24 := load 38 t23 [if 2=true]
      refine WL.goff rfl rfl (by decide) ?_   -- t25 := move t7 [if 2=true]
      refine WL.goff rfl rfl (by decide) ?_   -- t26 := indexAddr 38 t24 t25 [if 2=true]
      refine WL.goff rfl rfl (by decide) ?_   -- t27 := load 9 t26 [if 2=true]
      refine WL.goff rfl rfl (by decide) ?_   -- t28 := move t1 [if 2=true]
      refine WL.goff rfl rfl (by decide) ?_   -- t29 := binOp neq 9 t27 t28 9 [if 2=true]
      refine WL.val (Y.pick rfl rfl) (by decide) ?_   -- t30 := pick t20 t29 c(false)
      refine WL.nil ⟨⟨_, rfl, ?_⟩, rfl, (by repeat (first | exact Fr.le.refl | refine Fr.le.push rfl ?_))⟩
      first | (simp only [*, Int.natCast_inj, Bool.not_eq_true', decide_eq_false_iff_not, decide_eq_true_eq, not_true_eq_false, not_false_eq_true, true_and, false_and, and_true, and_false, false_or, or_false, true_or, or_true, iff_true, true_iff, iff_false, false_iff]; done) | (simp_all; done) | (refine congrArg Value.bool (Bool.eq_iff_iff.2 ?_); simp_all; done) | (simp_all; omega)
  first | refine CW.condD rfl (fun ht9 => ?_) (fun ht9 => ?_) | refine CW.condND rfl (fun ht9 => ?_) (fun ht9 => ?_) | refine CW.condN rfl (fun ht9 => ?_) (fun ht9 => ?_) | refine CW.cond rfl (fun ht9 => ?_) (fun ht9 => ?_)
  · -- then
    refine CW.seq fun K10 hK10 => ?_
    refine CW.region ?_   -- region 6
    refine WL.val (Y.build0 (build_apiDigest _)) (by decide) ?_   -- t31 := build 28 []
    refine WL.store (g := g4) (pre := []) (old := digC Dig.zero) (post := []) (new := digC Dig.zero) rfl rfl rfl rfl (sz_apiDigest _) (by simpa using hB4) (by first | rfl | (simp [digC_length, opC_length]; done) | (simp only [digC_length, opC_length]; omega)) (one_digC) (fun w7 hc7 hB7_ => ?_)   -- _ := store 28 t4 t31
    have hz7 := hc7.size; have hE := hE.stepO hc7 (fun k h => (by show (k = g ∨ (Value.slice A m c).ownBlock = some k ∨ (Value.slice B n cb).ownBlock = some k) ∨ _; omega)); have hR := hR.chg hc7 (fun h => by omega) (fun k hk h => by have := hul k hk; omega) (fun k hk h => by have := hvl k hk; omega); have hB0 := hB0.chg hc7 (fun h => by omega); have hB6 := hB6.chg hc7 (fun h => by omega)
    have hB4 : Blk w7 g4 TDi (digC Dig.zero) := by simpa using hB7_
    refine WL.val (Y.assign rfl) (by decide) ?_   -- t5 := assign c(10:i64)
    refine WL.nil ?_
    refine hK10 _ _ ?_; try clear hK10 K10
    refine CW.ret ?_
    have he : rPutE rs b = 10 := by rw [rPutE, if_neg (by omega), if_pos (And.left (by assumption)), if_neg (And.right (by assumption))]
    exact ⟨_, _, _, rfl, hB4.mem, digC_length _, rfl, by rw [rPutD_no (by rw [he]; decide), he], ⟨_, _, by rw [rPutL_same (.inl (by rw [he]; decide))]; exact hR, fun k h => .inl h, fun k h => .inl h⟩, hE⟩
  -- else
  refine CW.skip ?_
  refine hK8 _ _ ?_; try clear hK8 K8
  refine CW.seq fun K11 hK11 => ?_
  refine CW.seq fun K12 hK12 => ?_
  refine CW.region ?_   -- region 7
  refine WL.val (Y.move rfl) (by decide) ?_   -- t32 := move t7
  refine WL.val (Y.geq rfl rfl) (by decide) ?_   -- t33 := binOp geq 3 t32 c(0:i64) 3
  refine WL.nil ?_
  refine hK12 _ _ ?_; try clear hK12 K12
  first | refine CW.condD rfl (fun ht13 => ?_) (fun ht13 => ?_) | refine CW.condND rfl (fun ht13 => ?_) (fun ht13 => ?_) | refine CW.condN rfl (fun ht13 => ?_) (fun ht13 => ?_) | refine CW.cond rfl (fun ht13 => ?_) (fun ht13 => ?_)
  · -- then
    refine CW.seq fun K14 hK14 => ?_
    refine CW.region ?_   -- region 8
    refine WL.val (Y.load Tryd.underlying28 rfl hB6.mem (sz_apiDigest _) rfl) (by decide) ?_   -- t34 := load 28 t6
    refine WL.store (g := g4) (pre := []) (old := digC Dig.zero) (post := []) (new := digC (shaD b)) rfl rfl rfl rfl (sz_apiDigest _) (by simpa using hB4) (by first | rfl | (simp [digC_length, opC_length]; done) | (simp only [digC_length, opC_length]; omega)) (one_digC) (fun w8 hc8 hB8_ => ?_)   -- _ := store 28 t4 t34
    have hz8 := hc8.size; have hE := hE.stepO hc8 (fun k h => (by show (k = g ∨ (Value.slice A m c).ownBlock = some k ∨ (Value.slice B n cb).ownBlock = some k) ∨ _; omega)); have hR := hR.chg hc8 (fun h => by omega) (fun k hk h => by have := hul k hk; omega) (fun k hk h => by have := hvl k hk; omega); have hB0 := hB0.chg hc8 (fun h => by omega); have hB6 := hB6.chg hc8 (fun h => by omega)
    have hB4 : Blk w8 g4 TDi (digC (shaD b)) := by simpa using hB8_
    refine WL.val (Y.assign rfl) (by decide) ?_   -- t5 := assign c(0:i64)
    refine WL.nil ?_
    refine hK14 _ _ ?_; try clear hK14 K14
    refine CW.ret ?_
    have he : rPutE rs b = 0 := by
      have hs : 0 ≤ rFind rs (shaD b) := by assumption
      rw [rPutE, if_neg (by omega), if_pos hs, if_pos (Decidable.not_not.1 fun x => (by assumption : ¬ (0 ≤ rFind rs (shaD b) ∧ rGetB rs (shaD b) ≠ b)) ⟨hs, x⟩)]
    exact ⟨_, _, _, rfl, hB4.mem, digC_length _, rfl, by rw [rPutD_ok he, he], ⟨_, _, by rw [rPutL_same (.inr (by assumption))]; exact hR, fun k h => .inl h, fun k h => .inl h⟩, hE⟩
  -- else
  refine CW.skip ?_
  refine hK11 _ _ ?_; try clear hK11 K11
  refine CW.seq fun K15 hK15 => ?_
  refine CW.seq fun K16 hK16 => ?_
  refine CW.region ?_   -- region 9
  refine WL.val (Y.move rfl) (by decide) ?_   -- t35 := move t0
  refine WL.val (Y.nilCheck rfl) (by decide) ?_   -- t36 := nilCheck t35
  refine WL.val (Y.fieldAddr fo_recensionref11Store0 rfl) (by decide) ?_   -- t37 := fieldAddr 48 t36 0
  refine WL.val (Y.load1 Tryd.underlying46 rfl hB0.mem.recensionref11Store0 rfl) (by decide) ?_   -- t38 := load 46 t37
  refine WL.val (Y.len_slice Tryd.underlying46 rfl) (by decide) ?_   -- t39 := call len(t38) : 46
  refine WL.val (Y.geq rfl rfl) (by decide) ?_   -- t40 := binOp geq 3 t39 c(500:i64) 3
  refine WL.nil ?_
  refine hK16 _ _ ?_; try clear hK16 K16
  first | refine CW.condD rfl (fun ht17 => ?_) (fun ht17 => ?_) | refine CW.condND rfl (fun ht17 => ?_) (fun ht17 => ?_) | refine CW.condN rfl (fun ht17 => ?_) (fun ht17 => ?_) | refine CW.cond rfl (fun ht17 => ?_) (fun ht17 => ?_)
  · -- then
    refine CW.seq fun K18 hK18 => ?_
    refine CW.region ?_   -- region 10
    refine WL.val (Y.build0 (build_apiDigest _)) (by decide) ?_   -- t41 := build 28 []
    refine WL.store (g := g4) (pre := []) (old := digC Dig.zero) (post := []) (new := digC Dig.zero) rfl rfl rfl rfl (sz_apiDigest _) (by simpa using hB4) (by first | rfl | (simp [digC_length, opC_length]; done) | (simp only [digC_length, opC_length]; omega)) (one_digC) (fun w9 hc9 hB9_ => ?_)   -- _ := store 28 t4 t41
    have hz9 := hc9.size; have hE := hE.stepO hc9 (fun k h => (by show (k = g ∨ (Value.slice A m c).ownBlock = some k ∨ (Value.slice B n cb).ownBlock = some k) ∨ _; omega)); have hR := hR.chg hc9 (fun h => by omega) (fun k hk h => by have := hul k hk; omega) (fun k hk h => by have := hvl k hk; omega); have hB0 := hB0.chg hc9 (fun h => by omega); have hB6 := hB6.chg hc9 (fun h => by omega)
    have hB4 : Blk w9 g4 TDi (digC Dig.zero) := by simpa using hB9_
    refine WL.val (Y.assign rfl) (by decide) ?_   -- t5 := assign c(14:i64)
    refine WL.nil ?_
    refine hK18 _ _ ?_; try clear hK18 K18
    refine CW.ret ?_
    have he : rPutE rs b = 14 := by rw [rPutE, if_neg (by omega), if_neg (by assumption), if_pos (by omega)]
    exact ⟨_, _, _, rfl, hB4.mem, digC_length _, rfl, by rw [rPutD_no (by rw [he]; decide), he], ⟨_, _, by rw [rPutL_same (.inl (by rw [he]; decide))]; exact hR, fun k h => .inl h, fun k h => .inl h⟩, hE⟩
  -- else
  refine CW.skip ?_
  refine hK15 _ _ ?_; try clear hK15 K15
  refine CW.seq fun K19 hK19 => ?_
  refine CW.held (fun wq => Chg (fun k => k = g ∨ (Value.slice A m c).ownBlock = some k) w6 wq) (by kernel_rfl) 11 rfl fun w10 hx10 => ?_
  have hS : Chg (fun k => k = g ∨ (Value.slice A m c).ownBlock = some k) w6 w10 := hx10.chg
  have hz10 := hx10.size
  have hB0 := hB0.ext hx10
  have hI := hR.ids.ext hx10
  refine RH.take 0 (fun _ _ _ _ h => h) (by kernel_rfl) hS rfl (by kernel_rfl) (by kernel_rfl) (fun wq hq => Y.move rfl) (by decide) ?_   -- t42 := move t0
  refine RH.take 1 (fun _ _ _ _ h => h) (by kernel_rfl) hS rfl (by kernel_rfl) (by kernel_rfl) (fun wq hq => Y.move rfl) (by decide) ?_   -- t43 := move t0
  refine RH.take 2 (fun _ _ _ _ h => h) (by kernel_rfl) hS rfl (by kernel_rfl) (by kernel_rfl) (fun wq hq => Y.nilCheck rfl) (by decide) ?_   -- t44 := nilCheck t43
  refine RH.take 3 (fun _ _ _ _ h => h) (by kernel_rfl) hS rfl (by kernel_rfl) (by kernel_rfl) (fun wq hq => Y.fieldAddr fo_recensionref11Store0 rfl) (by decide) ?_   -- t45 := fieldAddr 48 t44 0
  refine RH.take 5 (fun _ _ _ _ h => h) (by kernel_rfl) hS rfl (by kernel_rfl) (by kernel_rfl) (fun wq hq => Y.load Tryd.underlying28 rfl (hB6.chg hq (fun h => by rcases h with h | h; omega; have := hul _ h; omega)).mem (sz_apiDigest _) rfl) (by decide) ?_   -- t47 := load 28 t6
  refine RH.two 4 6 (by kernel_rfl) ?_ ?_
  · skip
    refine RS.val rfl (Y.load1 Tryd.underlying46 rfl hB0.mem.recensionref11Store0 rfl) (by decide) ⟨hS, ?_⟩   -- t46 := load 46 t45
    refine RH.one 6 (by kernel_rfl) ?_
    refine RS.st rfl (St.buildSlice rfl (bs1_dig _)) (by decide) fun v48 w11 hR11 => ?_   -- buildSlice 46 1 [(0,t47)]
    obtain ⟨g48, rfl, hg48, hB48, hx11⟩ := hR11
    have hz11 := hx11.size
    have hS := hS.thenExt hx11
    have hI := hI.ext hx11
    have hB0 := hB0.ext hx11
    refine ⟨hS, ?_⟩
    refine RH.one 7 (by kernel_rfl) ?_
    refine RS.st rfl (St.append Tryd.underlying46 Tryd.underlying46 ai_dig rfl rfl hI (Src.one hB48 (digC_length _)) one_digC (by rw [flat_length digC_length, List.length_map]; omega)) (by decide) fun v49 w12 hR12 => ?_   -- call append(t46, t48) : 46,46
    obtain ⟨hI12, hc12, hf12⟩ := hR12
    have hz12 := hc12.size
    have hS := hS.trans hc12 (fun k _ h => .inr h)
    have hB0 := hB0.chg hc12 (fun h => (hnu _ h).1 rfl)
    have hun : ∀ k, v49.ownBlock = some k → k ≠ g ∧ (Value.slice B n cb).ownBlock ≠ some k ∧ ((Value.slice A m c).ownBlock = some k ∨ w.heap.size ≤ k) ∧ k ≠ g4 := by
      rcases hf12 with h | h
      · intro k hk; rw [h] at hk; exact ⟨(hnu k hk).1, (hnu k hk).2, .inl hk, by have := hul k hk; omega⟩
      · intro k hk; have := h k hk; exact ⟨by omega, fun hv => by have := hvl k hv; omega, .inr (by omega), by omega⟩
    obtain ⟨A2, m2, c2, rfl⟩ := hI12.lens
    refine ⟨hS, ?_⟩
    refine RH.take 8 (fun _ _ _ _ h => h) (by kernel_rfl) hS rfl (by kernel_rfl) (by kernel_rfl) (fun wq hq => Y.nilCheck rfl) (by decide) ?_   -- t50 := nilCheck t42
    refine RH.take 9 (fun _ _ _ _ h => h) (by kernel_rfl) hS rfl (by kernel_rfl) (by kernel_rfl) (fun wq hq => Y.fieldAddr fo_recensionref11Store0 rfl) (by decide) ?_   -- t51 := fieldAddr 48 t50 0
    refine RH.one 10 (by kernel_rfl) ?_
    refine RS.store rfl (g := g) (pre := []) (old := [.slice A m c]) (post := [.slice B n cb]) (new := [.slice A2 m2 c2]) rfl rfl rfl rfl (by kernel_rfl) (by simpa using hB0) rfl (one1 rfl) (fun w13 hc13 hB13_ => ?_)   -- store 46 t51 t49
    have hB0 : Blk w13 g TRS [.slice A2 m2 c2, .slice B n cb] := by simpa using hB13_
    have hI2 := hI12.chg hc13 (fun k hk h => (hun k hk).1 h)
    have hS := hS.trans hc13 (fun k _ h => .inl h)
    have hzS := hS.size
    refine ⟨hS, ?_⟩
    refine RH.done (by kernel_rfl) ?_
    have hE := hE.stepO hS (fun k h => .inl (by rcases h with h | h; exact .inl h; exact .inr (.inl h)))
    have hB4 := hB4.chg hS (fun h => by rcases h with h | h; omega; have := hul _ h; omega)
    have hB6 := hB6.chg hS (fun h => by rcases h with h | h; omega; have := hul _ h; omega)
    have hJ := hR.objs.chg hS (fun k hk h => by rcases h with h | h; exact hnv k hk h; exact (hnu k h).2 hk)
    refine hK19 _ _ ?_; try clear hK19 K19
    refine CW.seq fun K20 hK20 => ?_
    refine CW.region ?_   -- region 12
    refine WL.val (Y.move rfl) (by decide) ?_   -- t52 := move t0
    refine WL.val (Y.move rfl) (by decide) ?_   -- t53 := move t0
    refine WL.val (Y.nilCheck rfl) (by decide) ?_   -- t54 := nilCheck t53
    refine WL.val (Y.fieldAddr fo_recensionref11Store1 rfl) (by decide) ?_   -- t55 := fieldAddr 48 t54 1
    refine WL.val (Y.load1 Tryd.underlying38 rfl hB0.mem.recensionref11Store1 rfl) (by decide) ?_   -- t56 := load 38 t55
    refine WL.val (Y.move rfl) (by decide) ?_   -- t57 := move t1
    refine WL.st (St.buildSlice rfl (bs1_str _)) (by decide) fun v58 w14 hR14 => ?_   -- t58 := buildSlice 38 1 [(0,t57)]
    obtain ⟨g58, rfl, hg58, hB58, hx14⟩ := hR14
    have hz14 := hx14.size
    have hE := hE.thenExt hx14
    have hJ := hJ.ext hx14
    have hI2 := hI2.ext hx14
    have hB0 := hB0.ext hx14
    have hB4 := hB4.ext hx14
    have hB6 := hB6.ext hx14
    have hIl := hI2.lt
    refine WL.st (St.append Tryd.underlying38 Tryd.underlying38 ai_str rfl rfl hJ (Src.one hB58 rfl) (one1 rfl) (by rw [flat_length strC_length, List.length_map]; omega)) (by decide) fun v59 w15 hR15 => ?_   -- t59 := call append(t56, t58) : 38,38
    obtain ⟨hJ15, hc15, hf15⟩ := hR15
    have hz15 := hc15.size
    have hE := hE.stepO hc15 (fun k h => .inl (.inr (.inr h)))
    have hB0 := hB0.chg hc15 (fun h => hnv _ h rfl)
    have hB4 := hB4.chg hc15 (fun h => by have := hvl _ h; omega)
    have hB6 := hB6.chg hc15 (fun h => by have := hvl _ h; omega)
    have hI2 := hI2.chg hc15 (fun k hk h => (hun k hk).2.1 h)
    have hvn : ∀ k, v59.ownBlock = some k → k ≠ g ∧ (Value.slice A2 m2 c2).ownBlock ≠ some k ∧ ((Value.slice B n cb).ownBlock = some k ∨ w.heap.size ≤ k) ∧ k ≠ g4 := by
      rcases hf15 with h | h
      · intro k hk; rw [h] at hk; exact ⟨hnv k hk, fun hu => (hun k hu).2.1 hk, .inl hk, by have := hvl k hk; omega⟩
      · intro k hk; have := h k hk; exact ⟨by omega, fun hv => by have := hIl k hv; omega, .inr (by omega), by omega⟩
    obtain ⟨B2, n2, cb2, rfl⟩ := hJ15.lens
    refine WL.val (Y.nilCheck rfl) (by decide) ?_   -- t60 := nilCheck t52
    refine WL.val (Y.fieldAddr fo_recensionref11Store1 rfl) (by decide) ?_   -- t61 := fieldAddr 48 t60 1
    refine WL.store (g := g) (pre := [.slice A2 m2 c2]) (old := [.slice B n cb]) (post := []) (new := [.slice B2 n2 cb2]) rfl rfl rfl rfl (by kernel_rfl) (by simpa using hB0) (by first | rfl | (simp [digC_length, opC_length]; done) | (simp only [digC_length, opC_length]; omega)) (one1 rfl) (fun w16 hc16 hB16_ => ?_)   -- _ := store 38 t61 t59
    have hz16 := hc16.size; have hE := hE.stepO hc16 (fun k h => (by show (k = g ∨ (Value.slice A m c).ownBlock = some k ∨ (Value.slice B n cb).ownBlock = some k) ∨ _; omega)); have hB4 := hB4.chg hc16 (fun h => by omega); have hB6 := hB6.chg hc16 (fun h => by omega)
    have hB0 : Blk w16 g TRS [.slice A2 m2 c2, .slice B2 n2 cb2] := by simpa using hB16_
    have hI2 := hI2.chg hc16 (fun k hk h => (hun k hk).1 h)
    have hJ2 := hJ15.chg hc16 (fun k hk h => (hvn k hk).1 h)
    have hIl := hI2.lt
    have hJl := hJ2.lt
    refine WL.nil ?_
    refine hK20 _ _ ?_; try clear hK20 K20
    refine CW.seq fun K21 hK21 => ?_
    refine CW.region ?_   -- region 13
    refine WL.val (Y.load Tryd.underlying28 rfl hB6.mem (sz_apiDigest _) rfl) (by decide) ?_   -- t62 := load 28 t6
    refine WL.store (g := g4) (pre := []) (old := digC Dig.zero) (post := []) (new := digC (shaD b)) rfl rfl rfl rfl (sz_apiDigest _) (by simpa using hB4) (by first | rfl | (simp [digC_length, opC_length]; done) | (simp only [digC_length, opC_length]; omega)) (one_digC) (fun w17 hc17 hB17_ => ?_)   -- _ := store 28 t4 t62
    have hz17 := hc17.size; have hE := hE.stepO hc17 (fun k h => (by show (k = g ∨ (Value.slice A m c).ownBlock = some k ∨ (Value.slice B n cb).ownBlock = some k) ∨ _; omega)); have hB6 := hB6.chg hc17 (fun h => by omega)
    have hB4 : Blk w17 g4 TDi (digC (shaD b)) := by simpa using hB17_
    have hB0 := hB0.chg hc17 (fun h => by omega)
    have hI2 := hI2.chg hc17 (fun k hk h => (hun k hk).2.2.2 h)
    have hJ2 := hJ2.chg hc17 (fun k hk h => (hvn k hk).2.2.2 h)
    refine WL.val (Y.assign rfl) (by decide) ?_   -- t5 := assign c(0:i64)
    refine WL.nil ?_
    refine hK21 _ _ ?_; try clear hK21 K21
    refine CW.ret ?_
    have hfd : ¬ 0 ≤ rFind rs (shaD b) := by assumption
    have he : rPutE rs b = 0 := by rw [rPutE, if_neg (by omega), if_neg hfd, if_neg (by omega)]
    have hL : rPutL rs b = rs ++ [(shaD b, b)] := by rw [rPutL, if_pos ⟨he, hfd⟩]
    exact ⟨_, _, _, rfl, hB4.mem, digC_length _, rfl, by rw [rPutD_ok he, he], ⟨_, _, ⟨hB0, by rw [hL]; simpa [flatD] using hI2, by rw [hL]; simpa [flatS, strC] using hJ2, fun k hk => ⟨(hun k hk).1, fun hv => (hvn k hv).2.1 hk⟩, fun k hk => (hvn k hk).1, by rw [hL, List.length_append, List.length_singleton]; omega, fun p hp => by
      rw [hL] at hp
      rcases List.mem_append.1 hp with hp | hp
      · exact hR.short p hp
      · simp at hp; subst hp; show b.length ≤ 131072; omega⟩, fun k hk => (hun k hk).2.2.1, fun k hk => (hvn k hk).2.2.1⟩, hE⟩
  · skip
    refine RS.st rfl (St.buildSlice rfl (bs1_dig _)) (by decide) fun v48 w18 hR18 => ?_   -- buildSlice 46 1 [(0,t47)]
    obtain ⟨g48, rfl, hg48, hB48, hx18⟩ := hR18
    have hz18 := hx18.size
    have hS := hS.thenExt hx18
    have hI := hI.ext hx18
    have hB0 := hB0.ext hx18
    refine ⟨hS, ?_⟩
    refine RH.one 4 (by kernel_rfl) ?_
    refine RS.val rfl (Y.load1 Tryd.underlying46 rfl hB0.mem.recensionref11Store0 rfl) (by decide) ⟨hS, ?_⟩   -- t46 := load 46 t45
    refine RH.one 7 (by kernel_rfl) ?_
    refine RS.st rfl (St.append Tryd.underlying46 Tryd.underlying46 ai_dig rfl rfl hI (Src.one hB48 (digC_length _)) one_digC (by rw [flat_length digC_length, List.length_map]; omega)) (by decide) fun v49 w19 hR19 => ?_   -- call append(t46, t48) : 46,46
    obtain ⟨hI19, hc19, hf19⟩ := hR19
    have hz19 := hc19.size
    have hS := hS.trans hc19 (fun k _ h => .inr h)
    have hB0 := hB0.chg hc19 (fun h => (hnu _ h).1 rfl)
    have hun : ∀ k, v49.ownBlock = some k → k ≠ g ∧ (Value.slice B n cb).ownBlock ≠ some k ∧ ((Value.slice A m c).ownBlock = some k ∨ w.heap.size ≤ k) ∧ k ≠ g4 := by
      rcases hf19 with h | h
      · intro k hk; rw [h] at hk; exact ⟨(hnu k hk).1, (hnu k hk).2, .inl hk, by have := hul k hk; omega⟩
      · intro k hk; have := h k hk; exact ⟨by omega, fun hv => by have := hvl k hv; omega, .inr (by omega), by omega⟩
    obtain ⟨A2, m2, c2, rfl⟩ := hI19.lens
    refine ⟨hS, ?_⟩
    refine RH.take 8 (fun _ _ _ _ h => h) (by kernel_rfl) hS rfl (by kernel_rfl) (by kernel_rfl) (fun wq hq => Y.nilCheck rfl) (by decide) ?_   -- t50 := nilCheck t42
    refine RH.take 9 (fun _ _ _ _ h => h) (by kernel_rfl) hS rfl (by kernel_rfl) (by kernel_rfl) (fun wq hq => Y.fieldAddr fo_recensionref11Store0 rfl) (by decide) ?_   -- t51 := fieldAddr 48 t50 0
    refine RH.one 10 (by kernel_rfl) ?_
    refine RS.store rfl (g := g) (pre := []) (old := [.slice A m c]) (post := [.slice B n cb]) (new := [.slice A2 m2 c2]) rfl rfl rfl rfl (by kernel_rfl) (by simpa using hB0) rfl (one1 rfl) (fun w20 hc20 hB20_ => ?_)   -- store 46 t51 t49
    have hB0 : Blk w20 g TRS [.slice A2 m2 c2, .slice B n cb] := by simpa using hB20_
    have hI2 := hI19.chg hc20 (fun k hk h => (hun k hk).1 h)
    have hS := hS.trans hc20 (fun k _ h => .inl h)
    have hzS := hS.size
    refine ⟨hS, ?_⟩
    refine RH.done (by kernel_rfl) ?_
    have hE := hE.stepO hS (fun k h => .inl (by rcases h with h | h; exact .inl h; exact .inr (.inl h)))
    have hB4 := hB4.chg hS (fun h => by rcases h with h | h; omega; have := hul _ h; omega)
    have hB6 := hB6.chg hS (fun h => by rcases h with h | h; omega; have := hul _ h; omega)
    have hJ := hR.objs.chg hS (fun k hk h => by rcases h with h | h; exact hnv k hk h; exact (hnu k h).2 hk)
    refine hK19 _ _ ?_; try clear hK19 K19
    refine CW.seq fun K22 hK22 => ?_
    refine CW.region ?_   -- region 12
    refine WL.val (Y.move rfl) (by decide) ?_   -- t52 := move t0
    refine WL.val (Y.move rfl) (by decide) ?_   -- t53 := move t0
    refine WL.val (Y.nilCheck rfl) (by decide) ?_   -- t54 := nilCheck t53
    refine WL.val (Y.fieldAddr fo_recensionref11Store1 rfl) (by decide) ?_   -- t55 := fieldAddr 48 t54 1
    refine WL.val (Y.load1 Tryd.underlying38 rfl hB0.mem.recensionref11Store1 rfl) (by decide) ?_   -- t56 := load 38 t55
    refine WL.val (Y.move rfl) (by decide) ?_   -- t57 := move t1
    refine WL.st (St.buildSlice rfl (bs1_str _)) (by decide) fun v58 w21 hR21 => ?_   -- t58 := buildSlice 38 1 [(0,t57)]
    obtain ⟨g58, rfl, hg58, hB58, hx21⟩ := hR21
    have hz21 := hx21.size
    have hE := hE.thenExt hx21
    have hJ := hJ.ext hx21
    have hI2 := hI2.ext hx21
    have hB0 := hB0.ext hx21
    have hB4 := hB4.ext hx21
    have hB6 := hB6.ext hx21
    have hIl := hI2.lt
    refine WL.st (St.append Tryd.underlying38 Tryd.underlying38 ai_str rfl rfl hJ (Src.one hB58 rfl) (one1 rfl) (by rw [flat_length strC_length, List.length_map]; omega)) (by decide) fun v59 w22 hR22 => ?_   -- t59 := call append(t56, t58) : 38,38
    obtain ⟨hJ22, hc22, hf22⟩ := hR22
    have hz22 := hc22.size
    have hE := hE.stepO hc22 (fun k h => .inl (.inr (.inr h)))
    have hB0 := hB0.chg hc22 (fun h => hnv _ h rfl)
    have hB4 := hB4.chg hc22 (fun h => by have := hvl _ h; omega)
    have hB6 := hB6.chg hc22 (fun h => by have := hvl _ h; omega)
    have hI2 := hI2.chg hc22 (fun k hk h => (hun k hk).2.1 h)
    have hvn : ∀ k, v59.ownBlock = some k → k ≠ g ∧ (Value.slice A2 m2 c2).ownBlock ≠ some k ∧ ((Value.slice B n cb).ownBlock = some k ∨ w.heap.size ≤ k) ∧ k ≠ g4 := by
      rcases hf22 with h | h
      · intro k hk; rw [h] at hk; exact ⟨hnv k hk, fun hu => (hun k hu).2.1 hk, .inl hk, by have := hvl k hk; omega⟩
      · intro k hk; have := h k hk; exact ⟨by omega, fun hv => by have := hIl k hv; omega, .inr (by omega), by omega⟩
    obtain ⟨B2, n2, cb2, rfl⟩ := hJ22.lens
    refine WL.val (Y.nilCheck rfl) (by decide) ?_   -- t60 := nilCheck t52
    refine WL.val (Y.fieldAddr fo_recensionref11Store1 rfl) (by decide) ?_   -- t61 := fieldAddr 48 t60 1
    refine WL.store (g := g) (pre := [.slice A2 m2 c2]) (old := [.slice B n cb]) (post := []) (new := [.slice B2 n2 cb2]) rfl rfl rfl rfl (by kernel_rfl) (by simpa using hB0) (by first | rfl | (simp [digC_length, opC_length]; done) | (simp only [digC_length, opC_length]; omega)) (one1 rfl) (fun w23 hc23 hB23_ => ?_)   -- _ := store 38 t61 t59
    have hz23 := hc23.size; have hE := hE.stepO hc23 (fun k h => (by show (k = g ∨ (Value.slice A m c).ownBlock = some k ∨ (Value.slice B n cb).ownBlock = some k) ∨ _; omega)); have hB4 := hB4.chg hc23 (fun h => by omega); have hB6 := hB6.chg hc23 (fun h => by omega)
    have hB0 : Blk w23 g TRS [.slice A2 m2 c2, .slice B2 n2 cb2] := by simpa using hB23_
    have hI2 := hI2.chg hc23 (fun k hk h => (hun k hk).1 h)
    have hJ2 := hJ22.chg hc23 (fun k hk h => (hvn k hk).1 h)
    have hIl := hI2.lt
    have hJl := hJ2.lt
    refine WL.nil ?_
    refine hK22 _ _ ?_; try clear hK22 K22
    refine CW.seq fun K23 hK23 => ?_
    refine CW.region ?_   -- region 13
    refine WL.val (Y.load Tryd.underlying28 rfl hB6.mem (sz_apiDigest _) rfl) (by decide) ?_   -- t62 := load 28 t6
    refine WL.store (g := g4) (pre := []) (old := digC Dig.zero) (post := []) (new := digC (shaD b)) rfl rfl rfl rfl (sz_apiDigest _) (by simpa using hB4) (by first | rfl | (simp [digC_length, opC_length]; done) | (simp only [digC_length, opC_length]; omega)) (one_digC) (fun w24 hc24 hB24_ => ?_)   -- _ := store 28 t4 t62
    have hz24 := hc24.size; have hE := hE.stepO hc24 (fun k h => (by show (k = g ∨ (Value.slice A m c).ownBlock = some k ∨ (Value.slice B n cb).ownBlock = some k) ∨ _; omega)); have hB6 := hB6.chg hc24 (fun h => by omega)
    have hB4 : Blk w24 g4 TDi (digC (shaD b)) := by simpa using hB24_
    have hB0 := hB0.chg hc24 (fun h => by omega)
    have hI2 := hI2.chg hc24 (fun k hk h => (hun k hk).2.2.2 h)
    have hJ2 := hJ2.chg hc24 (fun k hk h => (hvn k hk).2.2.2 h)
    refine WL.val (Y.assign rfl) (by decide) ?_   -- t5 := assign c(0:i64)
    refine WL.nil ?_
    refine hK23 _ _ ?_; try clear hK23 K23
    refine CW.ret ?_
    have hfd : ¬ 0 ≤ rFind rs (shaD b) := by assumption
    have he : rPutE rs b = 0 := by rw [rPutE, if_neg (by omega), if_neg hfd, if_neg (by omega)]
    have hL : rPutL rs b = rs ++ [(shaD b, b)] := by rw [rPutL, if_pos ⟨he, hfd⟩]
    exact ⟨_, _, _, rfl, hB4.mem, digC_length _, rfl, by rw [rPutD_ok he, he], ⟨_, _, ⟨hB0, by rw [hL]; simpa [flatD] using hI2, by rw [hL]; simpa [flatS, strC] using hJ2, fun k hk => ⟨(hun k hk).1, fun hv => (hvn k hv).2.1 hk⟩, fun k hk => (hvn k hk).1, by rw [hL, List.length_append, List.length_singleton]; omega, fun p hp => by
      rw [hL] at hp
      rcases List.mem_append.1 hp with hp | hp
      · exact hR.short p hp
      · simp at hp; subst hp; show b.length ≤ 131072; omega⟩, fun k hk => (hun k hk).2.2.1, fun k hk => (hvn k hk).2.2.1⟩, hE⟩
end Go.Proofs.YtkbmlnkoejlgmaaDoor

/- The reference's store: Drop, walked. No condition. -/
namespace Go.Pl
open Go.Fw
def skipL (rs : RL) (f : Int) (x : Nat) : RL := if 0 ≤ f ∧ f < x then (rs.take x).eraseIdx f.toNat else rs.take x
theorem skip_step {rs : RL} {f : Int} {x : Nat} {e : Dig × List UInt8} (h : rs[x]? = some e) (hne : (x : Int) ≠ f) : skipL rs f (x + 1) = skipL rs f x ++ [e] := by
  have hx := (List.getElem?_eq_some_iff.1 h).1
  unfold skipL
  by_cases h1 : 0 ≤ f ∧ f < x
  · rw [if_pos h1, if_pos (by omega), take_succ h, List.eraseIdx_append_of_lt_length (by rw [List.length_take]; omega)]
  · rw [if_neg h1, if_neg (by omega), take_succ h]
theorem skip_same {rs : RL} {f : Int} {x : Nat} {e : Dig × List UInt8} (h : rs[x]? = some e) (hx : (x : Int) = f) : skipL rs f (x + 1) = skipL rs f x := by
  have hl := (List.getElem?_eq_some_iff.1 h).1
  unfold skipL
  rw [if_pos (by omega), if_neg (by omega), take_succ h, List.eraseIdx_append_of_length_le (by rw [List.length_take]; omega)]
  rw [List.length_take, show f.toNat - min x rs.length = 0 by omega]
  simp
theorem skip_sub {rs : RL} {f : Int} {x : Nat} : ∀ p ∈ skipL rs f x, p ∈ rs := by
  intro p hp
  unfold skipL at hp
  split at hp
  · exact List.mem_of_mem_take (List.mem_of_mem_eraseIdx hp)
  · exact List.mem_of_mem_take hp
theorem skip_len {rs : RL} {f : Int} {x : Nat} : (skipL rs f x).length ≤ x := by
  unfold skipL
  split
  · have := List.length_eraseIdx_le (rs.take x) f.toNat; rw [List.length_take] at this; omega
  · rw [List.length_take]; omega
def rDropL (rs : RL) (d : Dig) : RL := skipL rs (rFind rs d) rs.length
end Go.Pl
namespace Go.Proofs.YtkbmlnkoejlgmaaDoor
open Go.RowKit Go.Fw Go.Pl Go.Sort

set_option maxHeartbeats 2000000 in
theorem rDrop_any (g : Nat) (u v : Value) (rs : RL) (d : Dig) (w : World) (hR : RAt w g u v rs) : Calls Tryd.prog 32 #[.pointer (some ⟨g, 0, none⟩), digV d] w (Ret fun r w' => r = .bool (decide (0 ≤ rFind rs d)) ∧ (∃ u' v', RAt w' g u' v' (rDropL rs d) ∧ (∀ k, u'.ownBlock = some k → w.heap.size ≤ k) ∧ (∀ k, v'.ownBlock = some k → w.heap.size ≤ k)) ∧ Chg (fun k => k = g) w w') := by
  have hR0 := hR
  obtain ⟨A, m, c, rfl⟩ := hR.ids.lens
  obtain ⟨B, n, cb, rfl⟩ := hR.objs.lens
  have hm := (Own.len digC_length (by decide) hR.ids).1
  have hn := (Own.len strC_length (by decide) hR.objs).1
  rw [List.length_map] at hm hn
  have hfew := hR.few
  have hB0 := hR.blk
  have hgl := hB0.lt
  have hul := hR.ids.lt
  have hvl := hR.objs.lt
  refine calls_of_CW 54 [4] [(0, .pointer (some ⟨g, 0, none⟩)), (1, digV d)] Tryd.func32 rfl rfl rfl (by simp) args2 ?_
  have hE : Chg (fun k => k = g) w w := Chg.refl
  refine CW.seq fun K1 hK1 => ?_
  refine CW.region ?_   -- region 0
  refine WL.box rfl rfl (by decide) fun g3 w1 hx1 hg3 hB3 => ?_   -- t3 := box 28 t1
  have hlt3 := hB3.lt; have hz1 := hx1.size
  have hM3 := hB3.mem; have hz1 := hx1.size; have hE := hE.thenExt hx1; have hR := hR.ext hx1; have hB0 := hB0.ext hx1
  refine WL.val (Y.assign rfl) (by decide) ?_   -- t4 := assign c(false)
  refine WL.nil ?_
  refine hK1 _ _ ?_; try clear hK1 K1
  refine CW.seq fun K2 hK2 => ?_
  refine CW.region ?_   -- region 1
  refine WL.val (Y.move rfl) (by decide) ?_   -- t9 := move t0
  refine WL.val (Y.load Tryd.underlying28 rfl hB3.mem (sz_apiDigest _) rfl) (by decide) ?_   -- t10 := load 28 t3
  refine WL.call Tryd.func43 rfl rfl rfl (rFind_any g rs d _ ⟨_, _, hR⟩) (by simp) ?_; rintro v w2 ⟨rfl, hx2⟩; have hz2 := hx2.size; have hE := hE.thenExt hx2; have hR := hR.ext hx2; have hB0 := hB0.ext hx2; have hB3 := hB3.ext hx2   -- t11 := call F43(t9, t10) : 45,28
  refine WL.val (Y.assign rfl) (by decide) ?_   -- t5 := assign t11
  refine WL.nil ?_
  refine hK2 _ _ ?_; try clear hK2 K2
  refine CW.seq fun K3 hK3 => ?_
  refine CW.region ?_   -- region 2
  refine WL.val (Y.assign rfl) (by decide) ?_   -- t6 := assign c(nilslice)
  refine WL.nil ?_
  refine hK3 _ _ ?_; try clear hK3 K3
  refine CW.seq fun K4 hK4 => ?_
  refine CW.region ?_   -- region 3
  refine WL.val (Y.assign rfl) (by decide) ?_   -- t7 := assign c(nilslice)
  refine WL.nil ?_
  refine hK4 _ _ ?_; try clear hK4 K4
  refine CW.seq fun K5 hK5 => ?_
  refine CW.seq fun K6 hK6 => ?_
  refine CW.region ?_   -- region 4
  refine WL.val (Y.assign rfl) (by decide) ?_   -- t8 := assign c(0:i64)
  refine WL.nil ?_
  refine hK6 _ _ ?_; try clear hK6 K6
  refine CW.block ?_   -- block 0
  refine CW.loop (X := Nat × Value × Value) (fun x => [(0, .pointer (some ⟨g, 0, none⟩)), (5, .int .i64 (rFind rs d)), (6, x.2.1), (7, x.2.2), (8, .int .i64 (x.1 : Int))]) (fun x w0 => x.1 ≤ m ∧ Own w0 TDg 32 x.2.1 (flatD ((skipL rs (rFind rs d) x.1).map Prod.fst)) ∧ Own w0 TStr 1 x.2.2 (flatS ((skipL rs (rFind rs d) x.1).map Prod.snd)) ∧ (∀ k, (x.2.1 : Value).ownBlock = some k → w2.heap.size ≤ k ∧ (x.2.2 : Value).ownBlock ≠ some k) ∧ (∀ k, (x.2.2 : Value).ownBlock = some k → w2.heap.size ≤ k) ∧ Ext w2 w0) (fun x => m - x.1) (0, .slice none 0 0, .slice none 0 0) (by repeat (first | exact Fr.le.nil | refine Fr.le.cons rfl ?_)) ⟨Nat.zero_le _, by simpa [skipL, flatD] using Own.nil, by simpa [skipL, flatS] using Own.nil, (fun k h => by simp [Value.ownBlock] at h), (fun k h => by simp [Value.ownBlock] at h), Chg.refl⟩ ?_
  intro x w3 hl3
  obtain ⟨x, C_, E_⟩ := x
  dsimp only at hl3 ⊢
  obtain ⟨hx, hI, hJ, hfu, hfv, hL⟩ := hl3
  have hE := hE.thenExt hL
  have hR := hR.ext hL
  have hB0 := hB0.ext hL
  have hB3 := hB3.ext hL
  have hzL := hL.size
  obtain ⟨C, mc, cc, rfl⟩ := hI.lens
  obtain ⟨E, me, ce, rfl⟩ := hJ.lens
  have hIl := hI.lt
  have hJl := hJ.lt
  have hsk := skip_len (rs := rs) (f := rFind rs d) (x := x)
  refine CW.seq fun K7 hK7 => ?_
  refine CW.seq fun K8 hK8 => ?_
  refine CW.region ?_   -- region 5
  refine WL.val (Y.move rfl) (by decide) ?_   -- t12 := move t8
  refine WL.val (Y.move rfl) (by decide) ?_   -- t13 := move t0
  refine WL.val (Y.nilCheck rfl) (by decide) ?_   -- t14 := nilCheck t13
  refine WL.val (Y.fieldAddr fo_recensionref11Store0 rfl) (by decide) ?_   -- t15 := fieldAddr 48 t14 0
  refine WL.val (Y.load1 Tryd.underlying46 rfl hB0.mem.recensionref11Store0 rfl) (by decide) ?_   -- t16 := load 46 t15
  refine WL.val (Y.len_slice Tryd.underlying46 rfl) (by decide) ?_   -- t17 := call len(t16) : 46
  refine WL.val (Y.lss rfl rfl) (by decide) ?_   -- t18 := binOp lss 3 t12 t17 3
  refine WL.nil ?_
  refine hK8 _ _ ?_; try clear hK8 K8
  first | refine CW.condD rfl (fun ht9 => ?_) (fun ht9 => ?_) | refine CW.condND rfl (fun ht9 => ?_) (fun ht9 => ?_) | refine CW.condN rfl (fun ht9 => ?_) (fun ht9 => ?_) | refine CW.cond rfl (fun ht9 => ?_) (fun ht9 => ?_)
  · -- then
    refine CW.skip ?_
    refine hK7 _ _ ?_; try clear hK7 K7
    refine CW.seq_to (X := Value × Value) (fun y => [(0, .pointer (some ⟨g, 0, none⟩)), (5, .int .i64 (rFind rs d)), (6, y.1), (7, y.2), (8, .int .i64 (x : Int))]) (fun y w0 => Own w0 TDg 32 y.1 (flatD ((skipL rs (rFind rs d) (x + 1)).map Prod.fst)) ∧ Own w0 TStr 1 y.2 (flatS ((skipL rs (rFind rs d) (x + 1)).map Prod.snd)) ∧ (∀ k, (y.1 : Value).ownBlock = some k → w2.heap.size ≤ k ∧ (y.2 : Value).ownBlock ≠ some k) ∧ (∀ k, (y.2 : Value).ownBlock = some k → w2.heap.size ≤ k) ∧ Ext w2 w0) ?_ ?_
    · skip
      refine CW.block ?_   -- block 1
      refine CW.seq fun K11 hK11 => ?_
      obtain ⟨⟨dx, bx⟩, hex⟩ : ∃ e, rs[x]? = some e := ⟨_, List.getElem?_eq_getElem (by omega)⟩
      obtain ⟨a, rfl, hma⟩ := (hR.ids.sl digC_length (by decide)).at (rs_fst hex)
      obtain ⟨a2, rfl, _⟩ := (hR.objs.sl strC_length (by decide)).at (rs_snd hex)
      refine CW.region ?_   -- region 7
      refine WL.val (Y.move rfl) (by decide) ?_   -- t21 := move t8
      refine WL.val (Y.move rfl) (by decide) ?_   -- t22 := move t5
      refine WL.val (Y.neq rfl rfl) (by decide) ?_   -- t23 := binOp neq 3 t21 t22 3
      refine WL.nil ?_
      refine hK11 _ _ ?_; try clear hK11 K11
      first | refine CW.condD rfl (fun ht12 => ?_) (fun ht12 => ?_) | refine CW.condND rfl (fun ht12 => ?_) (fun ht12 => ?_) | refine CW.condN rfl (fun ht12 => ?_) (fun ht12 => ?_) | refine CW.cond rfl (fun ht12 => ?_) (fun ht12 => ?_)
      · -- then
        refine CW.seq fun K13 hK13 => ?_
        refine CW.region ?_   -- region 8
        refine WL.val (Y.move rfl) (by decide) ?_   -- t24 := move t6
        refine WL.val (Y.move rfl) (by decide) ?_   -- t25 := move t0
        refine WL.val (Y.nilCheck rfl) (by decide) ?_   -- t26 := nilCheck t25
        refine WL.val (Y.fieldAddr fo_recensionref11Store0 rfl) (by decide) ?_   -- t27 := fieldAddr 48 t26 0
        refine WL.val (Y.load1 Tryd.underlying46 rfl hB0.mem.recensionref11Store0 rfl) (by decide) ?_   -- t28 := load 46 t27
        refine WL.val (Y.move rfl) (by decide) ?_   -- t29 := move t8
        refine WL.val (Y.indexAddrN Tryd.underlying46 rfl rfl sz0_apiDigest (by omega)) (by decide) ?_   -- t30 := indexAddr 46 t28 t29
        refine WL.val (Y.load Tryd.underlying28 rfl hma (sz_apiDigest _) rfl) (by decide) ?_   -- t31 := load 28 t30
        refine WL.st (St.buildSlice rfl (bs1_dig _)) (by decide) fun v32 w4 hR4 => ?_   -- t32 := buildSlice 46 1 [(0,t31)]
        obtain ⟨g32, rfl, hg32, hB32, hx4⟩ := hR4
        have hz4 := hx4.size
        have hE := hE.thenExt hx4
        have hL := hL.thenExt hx4
        have hI := hI.ext hx4
        have hJ := hJ.ext hx4
        have hB0 := hB0.ext hx4
        have hB3 := hB3.ext hx4
        have hR := hR.ext hx4
        refine WL.st (St.append Tryd.underlying46 Tryd.underlying46 ai_dig rfl rfl hI (Src.one hB32 (digC_length _)) one_digC (by rw [flat_length digC_length, List.length_map]; omega)) (by decide) fun v33 w5 hR5 => ?_   -- t33 := call append(t24, t32) : 46,46
        obtain ⟨hI5, hc5, hf5⟩ := hR5
        have hz5 := hc5.size
        have hE := hE.stepO hc5 (fun k h => .inr (by have := (hfu k h).1; omega))
        have hL := hL.step hc5 (fun k h => (hfu k h).1)
        have hR := hR.chg hc5 (fun h => by have := (hfu _ h).1; omega) (fun k hk h => by have := (hfu _ h).1; have := hul k hk; omega) (fun k hk h => by have := (hfu _ h).1; have := hvl k hk; omega)
        have hB0 := hR.blk
        have hB3 := hB3.chg hc5 (fun h => by have := (hfu _ h).1; omega)
        have hJ := hJ.chg hc5 (fun k hk h => (hfu k h).2 hk)
        have hf5n : ∀ k, v33.ownBlock = some k → w2.heap.size ≤ k ∧ (Value.slice E me ce).ownBlock ≠ some k := by
          rcases hf5 with h | h
          · intro k hk; rw [h] at hk; exact hfu k hk
          · intro k hk; have := h k hk; exact ⟨by omega, fun h2 => by have := hJl k h2; omega⟩
        obtain ⟨_, he2, hma2⟩ := (hR.objs.sl strC_length (by decide)).at (rs_snd hex)
        cases he2
        refine WL.val (Y.assign rfl) (by decide) ?_   -- t6 := assign t33
        refine WL.nil ?_
        refine hK13 _ _ ?_; try clear hK13 K13
        refine CW.region ?_   -- region 9
        refine WL.val (Y.move rfl) (by decide) ?_   -- t34 := move t7
        refine WL.val (Y.move rfl) (by decide) ?_   -- t35 := move t0
        refine WL.val (Y.nilCheck rfl) (by decide) ?_   -- t36 := nilCheck t35
        refine WL.val (Y.fieldAddr fo_recensionref11Store1 rfl) (by decide) ?_   -- t37 := fieldAddr 48 t36 1
        refine WL.val (Y.load1 Tryd.underlying38 rfl hB0.mem.recensionref11Store1 rfl) (by decide) ?_   -- t38 := load 38 t37
        refine WL.val (Y.move rfl) (by decide) ?_   -- t39 := move t8
        refine WL.val (Y.indexAddrN Tryd.underlying38 rfl rfl sz0_string (by omega)) (by decide) ?_   -- t40 := indexAddr 38 t38 t39
        refine WL.val (Y.load1 Tryd.underlying9 rfl hma2.cell0 rfl) (by decide) ?_   -- t41 := load 9 t40
        refine WL.st (St.buildSlice rfl (bs1_str _)) (by decide) fun v42 w6 hR6 => ?_   -- t42 := buildSlice 38 1 [(0,t41)]
        obtain ⟨g42, rfl, hg42, hB42, hx6⟩ := hR6
        have hz6 := hx6.size
        have hE := hE.thenExt hx6
        have hL := hL.thenExt hx6
        have hI5 := hI5.ext hx6
        have hJ := hJ.ext hx6
        have hB0 := hB0.ext hx6
        have hB3 := hB3.ext hx6
        have hR := hR.ext hx6
        have hI5l := hI5.lt
        refine WL.st (St.append Tryd.underlying38 Tryd.underlying38 ai_str rfl rfl hJ (Src.one hB42 rfl) (one1 rfl) (by rw [flat_length strC_length, List.length_map]; omega)) (by decide) fun v43 w7 hR7 => ?_   -- t43 := call append(t34, t42) : 38,38
        obtain ⟨hJ7, hc7, hf7⟩ := hR7
        have hz7 := hc7.size
        have hL := hL.step hc7 (fun k h => hfv k h)
        have hI5 := hI5.chg hc7 (fun k hk h => (hf5n k hk).2 h)
        have hf7n : ∀ k, v43.ownBlock = some k → w2.heap.size ≤ k ∧ v33.ownBlock ≠ some k := by
          rcases hf7 with h | h
          · intro k hk; rw [h] at hk; exact ⟨hfv k hk, fun h2 => (hf5n k h2).2 hk⟩
          · intro k hk; have := h k hk; exact ⟨by omega, fun h2 => by have := hI5l k h2; omega⟩
        refine WL.val (Y.assign rfl) (by decide) ?_   -- t7 := assign t43
        refine WL.nil ?_
        have hne : (x : Int) ≠ rFind rs d := by assumption
        exact ⟨(v33, v43), (by repeat (first | exact Fr.le.nil | refine Fr.le.cons rfl ?_)), by rw [skip_step hex hne]; simpa [flatD] using hI5, by rw [skip_step hex hne]; simpa [flatS, strC] using hJ7, fun k hk => ⟨(hf5n k hk).1, fun h => (hf7n k h).2 hk⟩, fun k hk => (hf7n k hk).1, hL⟩
      -- else
      refine CW.skip ?_
      have heq : (x : Int) = rFind rs d := Decidable.not_not.1 (by assumption)
      exact ⟨(_, _), (by repeat (first | exact Fr.le.nil | refine Fr.le.cons rfl ?_)), by rw [skip_same hex heq]; exact hI, by rw [skip_same hex heq]; exact hJ, hfu, hfv, hL⟩
    rintro u w8 hj8
    obtain ⟨C2, E2⟩ := u
    dsimp only at hj8 ⊢
    refine CW.region ?_   -- region 6
    refine WL.val (Y.move rfl) (by decide) ?_   -- t19 := move t8
    refine WL.val (Y.add rfl rfl ⟨by omega, by omega⟩) (by decide) ?_   -- t20 := binOp add 3 t19 c(1:i64) 3
    refine WL.val (Y.assign rfl) (by decide) ?_   -- t8 := assign t20
    refine WL.nil ?_
    obtain ⟨hI, hJ, hfu, hfv, hL⟩ := hj8
    exact ⟨(x + 1, C2, E2), by show m - (x + 1) < m - x; omega, (by repeat (first | exact Fr.le.nil | refine Fr.le.cons rfl ?_)), by show x + 1 ≤ m; omega, hI, hJ, hfu, hfv, hL⟩
  -- else
  refine CW.exit ?_   -- exit 0
  refine hK5 _ _ ?_; try clear hK5 K5
  refine CW.seq fun K14 hK14 => ?_
  refine CW.region ?_   -- region 10
  refine WL.val (Y.move rfl) (by decide) ?_   -- t44 := move t0
  refine WL.val (Y.move rfl) (by decide) ?_   -- t45 := move t6
  refine WL.val (Y.nilCheck rfl) (by decide) ?_   -- t46 := nilCheck t44
  refine WL.val (Y.fieldAddr fo_recensionref11Store0 rfl) (by decide) ?_   -- t47 := fieldAddr 48 t46 0
  refine WL.store (g := g) (pre := []) (old := [.slice A m c]) (post := [.slice B n cb]) (new := [.slice C mc cc]) rfl rfl rfl rfl (by kernel_rfl) (by simpa using hB0) (by first | rfl | (simp [digC_length, opC_length]; done) | (simp only [digC_length, opC_length]; omega)) (one1 rfl) (fun w9 hc9 hB9_ => ?_)   -- _ := store 46 t47 t45
  have hz9 := hc9.size; have hE := hE.stepO hc9 (fun k h => (by show (k = g) ∨ _; omega)); have hR := hR; have hB3 := hB3.chg hc9 (fun h => by omega)
  have hB0 : Blk w9 g TRS [.slice C mc cc, .slice B n cb] := by simpa using hB9_
  have hI := hI.chg hc9 (fun k hk h => by have := (hfu k hk).1; omega)
  have hJ := hJ.chg hc9 (fun k hk h => by have := hfv k hk; omega)
  refine WL.nil ?_
  refine hK14 _ _ ?_; try clear hK14 K14
  refine CW.seq fun K15 hK15 => ?_
  refine CW.region ?_   -- region 11
  refine WL.val (Y.move rfl) (by decide) ?_   -- t48 := move t0
  refine WL.val (Y.move rfl) (by decide) ?_   -- t49 := move t7
  refine WL.val (Y.nilCheck rfl) (by decide) ?_   -- t50 := nilCheck t48
  refine WL.val (Y.fieldAddr fo_recensionref11Store1 rfl) (by decide) ?_   -- t51 := fieldAddr 48 t50 1
  refine WL.store (g := g) (pre := [.slice C mc cc]) (old := [.slice B n cb]) (post := []) (new := [.slice E me ce]) rfl rfl rfl rfl (by kernel_rfl) (by simpa using hB0) (by first | rfl | (simp [digC_length, opC_length]; done) | (simp only [digC_length, opC_length]; omega)) (one1 rfl) (fun w10 hc10 hB10_ => ?_)   -- _ := store 38 t51 t49
  have hz10 := hc10.size; have hE := hE.stepO hc10 (fun k h => (by show (k = g) ∨ _; omega)); have hR := hR; have hB3 := hB3.chg hc10 (fun h => by omega)
  have hB0 : Blk w10 g TRS [.slice C mc cc, .slice E me ce] := by simpa using hB10_
  have hI := hI.chg hc10 (fun k hk h => by have := (hfu k hk).1; omega)
  have hJ := hJ.chg hc10 (fun k hk h => by have := hfv k hk; omega)
  refine WL.nil ?_
  refine hK15 _ _ ?_; try clear hK15 K15
  refine CW.seq fun K16 hK16 => ?_
  refine CW.region ?_   -- region 12
  refine WL.val (Y.move rfl) (by decide) ?_   -- t52 := move t5
  refine WL.val (Y.geq rfl rfl) (by decide) ?_   -- t53 := binOp geq 3 t52 c(0:i64) 3
  refine WL.val (Y.assign rfl) (by decide) ?_   -- t4 := assign t53
  refine WL.nil ?_
  refine hK16 _ _ ?_; try clear hK16 K16
  refine CW.ret ⟨_, rfl, ?_⟩
  have hsl : skipL rs (rFind rs d) x = rDropL rs d := by rw [rDropL, show x = rs.length by omega]
  rw [hsl] at hI hJ
  exact ⟨rfl, ⟨_, _, ⟨hB0, hI, hJ, fun k hk => ⟨by have := (hfu k hk).1; omega, (hfu k hk).2⟩, fun k hk => by have := hfv k hk; omega, Nat.le_trans skip_len hfew, fun p hp => hR0.short p (skip_sub p hp)⟩, fun k hk => by have := (hfu k hk).1; omega, fun k hk => by have := hfv k hk; omega⟩, hE⟩
end Go.Proofs.YtkbmlnkoejlgmaaDoor

/- The reference's store: Copy, walked. No condition. -/
namespace Go.Fw
theorem St.box {P : Program} {n : NN} {fr : Fr} {w : World} {ty t : TypeId} {x : Operand} {v : Value} {cs : List Value} (hx : ev fr x = some v) (hv : v.cells = cs.toArray) :
    St P n fr (.box t x) ty w (fun v' w' => ∃ g, v' = .pointer (some ⟨g, 0, none⟩) ∧ w.heap.size ≤ g ∧ Blk w' g t cs ∧ Ext w w') := fun a o' ho hty ha => by
  refine ⟨_, w.alloc (.cells cs.toArray t), ?_, w.heap.size, rfl, Nat.le_refl _, Blk.new w t cs, Chg.alloc _⟩
  simp [execOp, ho, ha.ev hx, Instr.box, newVar, newRow, hv]
theorem Src.ownG {P : Program} {w : World} {e : TypeId} {k : Nat} {A : Option Addr} {m c : Nat} {xs : List Value} (h : Own w e k (.slice A m c) xs) : Src P w k (.slice A m c) m xs := by
  obtain ⟨hm, _, hl, _⟩ := h.mem A m c rfl
  exact Src.slice hl hm
end Go.Fw
namespace Go.Proofs.YtkbmlnkoejlgmaaDoor
open Go.RowKit Go.Fw Go.Pl Go.Sort
theorem one_flatDg (l : List Dig) : ∀ u ∈ flatD l, u.oneCell' = true := by
  intro u hu
  obtain ⟨s, hs, hu⟩ := List.mem_flatten.1 hu
  obtain ⟨d, _, rfl⟩ := List.mem_map.1 hs
  exact one_digC u hu
theorem one_flatS (l : List (List UInt8)) : ∀ u ∈ flatS l, u.oneCell' = true := by
  intro u hu
  obtain ⟨s, hs, hu⟩ := List.mem_flatten.1 hu
  obtain ⟨d, _, rfl⟩ := List.mem_map.1 hs
  simp [strC] at hu; subst hu; rfl
theorem build_refStore (A B : Option Addr) (m c n e : Nat) (w : World) : (Instr.build TRS [(0, Value.slice A m c), (1, Value.slice B n e)].toArray).run Tryd.prog w = .ok (.agg [Value.slice A m c, Value.slice B n e].toArray) w := run_build w _ _ _ (by kernel_rfl)

set_option maxHeartbeats 2000000 in
theorem rCopy_any (g : Nat) (u v : Value) (rs : RL) (w : World) (hR : RAt w g u v rs) : Calls Tryd.prog 19 #[.pointer (some ⟨g, 0, none⟩)] w (Ret fun r w' => ∃ g' u' v', r = .pointer (some ⟨g', 0, none⟩) ∧ w.heap.size ≤ g' ∧ RAt w' g' u' v' rs ∧ (∀ k, u'.ownBlock = some k → w.heap.size ≤ k) ∧ (∀ k, v'.ownBlock = some k → w.heap.size ≤ k) ∧ Ext w w') := by
  have hR0 := hR
  obtain ⟨A, m, c, rfl⟩ := hR.ids.lens
  obtain ⟨B, n, cb, rfl⟩ := hR.objs.lens
  have hm := (Own.len digC_length (by decide) hR.ids).1
  have hn := (Own.len strC_length (by decide) hR.objs).1
  rw [List.length_map] at hm hn
  have hfew := hR.few
  have hB0 := hR.blk
  have hgl := hB0.lt
  refine calls_of_CW 17 [2] [(0, .pointer (some ⟨g, 0, none⟩))] Tryd.func19 rfl rfl rfl (by simp) args1 ?_
  have hE : Ext w w := Chg.refl
  refine CW.seq fun K1 hK1 => ?_
  refine CW.region ?_   -- region 0
  refine WL.val (Y.assign rfl) (by decide) ?_   -- t2 := assign c(['Go.Value.pointer', 'none'])
  refine WL.nil ?_
  refine hK1 _ _ ?_; try clear hK1 K1
  refine CW.seq fun K2 hK2 => ?_
  refine CW.held (fun wq => Ext w wq) (by kernel_rfl) 15 rfl fun w1 hS => ?_
  refine RH.take 1 (fun _ _ _ _ h => h) (by kernel_rfl) hS rfl (by kernel_rfl) (by kernel_rfl) (fun wq hq => Y.move rfl) (by decide) ?_   -- t4 := move t0
  refine RH.take 2 (fun _ _ _ _ h => h) (by kernel_rfl) hS rfl (by kernel_rfl) (by kernel_rfl) (fun wq hq => Y.nilCheck rfl) (by decide) ?_   -- t5 := nilCheck t4
  refine RH.take 3 (fun _ _ _ _ h => h) (by kernel_rfl) hS rfl (by kernel_rfl) (by kernel_rfl) (fun wq hq => Y.fieldAddr fo_recensionref11Store0 rfl) (by decide) ?_   -- t6 := fieldAddr 48 t5 0
  refine RH.take 4 (fun _ _ _ _ h => h) (by kernel_rfl) hS rfl (by kernel_rfl) (by kernel_rfl) (fun wq hq => Y.load1 Tryd.underlying46 rfl (hB0.ext hq).mem.recensionref11Store0 rfl) (by decide) ?_   -- t7 := load 46 t6
  refine RH.take 7 (fun _ _ _ _ h => h) (by kernel_rfl) hS rfl (by kernel_rfl) (by kernel_rfl) (fun wq hq => Y.move rfl) (by decide) ?_   -- t10 := move t0
  refine RH.take 8 (fun _ _ _ _ h => h) (by kernel_rfl) hS rfl (by kernel_rfl) (by kernel_rfl) (fun wq hq => Y.nilCheck rfl) (by decide) ?_   -- t11 := nilCheck t10
  refine RH.take 9 (fun _ _ _ _ h => h) (by kernel_rfl) hS rfl (by kernel_rfl) (by kernel_rfl) (fun wq hq => Y.fieldAddr fo_recensionref11Store1 rfl) (by decide) ?_   -- t12 := fieldAddr 48 t11 1
  refine RH.take 10 (fun _ _ _ _ h => h) (by kernel_rfl) hS rfl (by kernel_rfl) (by kernel_rfl) (fun wq hq => Y.load1 Tryd.underlying38 rfl (hB0.ext hq).mem.recensionref11Store1 rfl) (by decide) ?_   -- t13 := load 38 t12
  refine RH.two 0 6 (by kernel_rfl) ?_ ?_
  · skip
    refine RS.st rfl (St.buildSlice0 Tryd.underlying46 sz0_apiDigest) (by decide) fun v3 w2 hR2 => ?_   -- buildSlice 46 0 []
    obtain ⟨gI, rfl, hgI, hI, hx2⟩ := hR2
    have hz2 := hx2.size
    have hS1 := hS.size
    have hS := hS.thenExt hx2
    have hS0 := hS
    have hfI : ∀ k, (Value.slice (some ⟨gI, 0, none⟩) 0 0).ownBlock = some k → w.heap.size ≤ k := fun k h => by simp [Value.ownBlock] at h; have := hS0.size; omega
    refine ⟨hS, ?_⟩
    refine RH.two 5 6 (by kernel_rfl) ?_ ?_
    · skip
      refine RS.st rfl (St.append Tryd.underlying46 Tryd.underlying46 ai_dig rfl rfl hI (Src.ownG (hR.ids.ext hS)) (one_flatDg _) (by simp only [List.length_nil]; omega)) (by decide) fun v8 w3 hR3 => ?_   -- call append(t3, t7) : 46,46
      obtain ⟨hI, hc3, hw3⟩ := hR3
      have hz3 := hc3.size
      rw [List.nil_append] at hI
      have hSz := hS.size
      have hS := hS.step hc3 (fun k h => hfI k h)
      have hfI : ∀ k, v8.ownBlock = some k → w.heap.size ≤ k := by
        rcases hw3 with h | h
        · intro k hk; rw [h] at hk; exact hfI k hk
        · intro k hk; have := h k hk; omega
      refine ⟨hS, ?_⟩
      refine RH.one 6 (by kernel_rfl) ?_
      refine RS.st rfl (St.buildSlice0 Tryd.underlying38 sz0_string) (by decide) fun v9 w4 hR4 => ?_   -- buildSlice 38 0 []
      obtain ⟨gQ, rfl, hgQ, hQ, hx4⟩ := hR4
      have hz4 := hx4.size
      have hS1 := hS.size
      have hS := hS.thenExt hx4
      have hS0 := hS
      have hfQ : ∀ k, (Value.slice (some ⟨gQ, 0, none⟩) 0 0).ownBlock = some k → w.heap.size ≤ k := fun k h => by simp [Value.ownBlock] at h; have := hS0.size; omega
      have hl := hI.lt
      have hI := hI.ext hx4
      have hD : ∀ k, v8.ownBlock = some k → (Value.slice (some ⟨gQ, 0, none⟩) 0 0).ownBlock ≠ some k := fun k h1 h2 => by have := hl k h1; simp [Value.ownBlock] at h2; omega
      refine ⟨hS, ?_⟩
      refine RH.one 11 (by kernel_rfl) ?_
      refine RS.st rfl (St.append Tryd.underlying38 Tryd.underlying38 ai_str rfl rfl hQ (Src.ownG (hR.objs.ext hS)) (one_flatS _) (by simp only [List.length_nil]; omega)) (by decide) fun v14 w5 hR5 => ?_   -- call append(t9, t13) : 38,38
      obtain ⟨hQ, hc5, hw5⟩ := hR5
      have hz5 := hc5.size
      rw [List.nil_append] at hQ
      have hSz := hS.size
      have hS := hS.step hc5 (fun k h => hfQ k h)
      have hl := hI.lt
      have hI := hI.chg hc5 (fun k hk h => hD k hk h)
      have hD : ∀ k, v8.ownBlock = some k → v14.ownBlock ≠ some k := by
        rcases hw5 with h | h
        · intro k hk h2; rw [h] at h2; exact hD k hk h2
        · intro k hk h2; have := h k h2; have := hl k hk; omega
      have hfQ : ∀ k, v14.ownBlock = some k → w.heap.size ≤ k := by
        rcases hw5 with h | h
        · intro k hk; rw [h] at hk; exact hfQ k hk
        · intro k hk; have := h k hk; omega
      obtain ⟨Ai, mi, ci, rfl⟩ := hI.lens
      obtain ⟨Aq, mq, cq, rfl⟩ := hQ.lens
      have hlI := hI.lt
      have hlQ := hQ.lt
      refine ⟨hS, ?_⟩
      refine RH.take 12 (fun _ _ _ _ h => h) (by kernel_rfl) hS rfl (by kernel_rfl) (by kernel_rfl) (fun wq hq => Y.build rfl (build_refStore _ _ _ _ _ _ _)) (by decide) ?_   -- t15 := build 48 [(0,t8), (1,t14)]
      refine RH.one 13 (by kernel_rfl) ?_
      refine RS.st rfl (St.box rfl rfl) (by decide) fun v16 w6 hR6 => ?_   -- box 48 t15
      obtain ⟨gB, rfl, hgB, hBB, hx6⟩ := hR6
      have hz6 := hx6.size
      have hS2 := hS.size
      have hS := hS.thenExt hx6
      have hI := hI.ext hx6
      have hQ := hQ.ext hx6
      refine ⟨hS, ?_⟩
      refine RH.take 14 (fun _ _ _ _ h => h) (by kernel_rfl) hS rfl (by kernel_rfl) (by kernel_rfl) (fun wq hq => Y.assign rfl) (by decide) ?_   -- t2 := assign t16
      refine RH.done (by kernel_rfl) ?_
      have hx7 := hS; have hz7 := hx7.size; have hE := hE.thenExt hx7; have hR := hR.ext hx7; have hB0 := hB0.ext hx7
      refine hK2 _ _ ?_; try clear hK2 K2
      refine CW.ret ⟨_, rfl, ?_⟩
      exact ⟨gB, _, _, rfl, by omega, ⟨hBB, hI, hQ, fun k hk => ⟨fun h => by have := hlI k hk; omega, hD k hk⟩, fun k hk h => by have := hlQ k hk; omega, hR0.few, hR0.short⟩, hfI, hfQ, hE⟩
    · skip
      refine RS.st rfl (St.buildSlice0 Tryd.underlying38 sz0_string) (by decide) fun v9 w8 hR8 => ?_   -- buildSlice 38 0 []
      obtain ⟨gQ, rfl, hgQ, hQ, hx8⟩ := hR8
      have hz8 := hx8.size
      have hS1 := hS.size
      have hS := hS.thenExt hx8
      have hS0 := hS
      have hfQ : ∀ k, (Value.slice (some ⟨gQ, 0, none⟩) 0 0).ownBlock = some k → w.heap.size ≤ k := fun k h => by simp [Value.ownBlock] at h; have := hS0.size; omega
      have hl := hI.lt
      have hI := hI.ext hx8
      have hD : ∀ k, (Value.slice (some ⟨gI, 0, none⟩) 0 0).ownBlock = some k → (Value.slice (some ⟨gQ, 0, none⟩) 0 0).ownBlock ≠ some k := fun k h1 h2 => by have := hl k h1; simp [Value.ownBlock] at h2; omega
      refine ⟨hS, ?_⟩
      refine RH.one 5 (by kernel_rfl) ?_
      refine RS.st rfl (St.append Tryd.underlying46 Tryd.underlying46 ai_dig rfl rfl hI (Src.ownG (hR.ids.ext hS)) (one_flatDg _) (by simp only [List.length_nil]; omega)) (by decide) fun v8 w9 hR9 => ?_   -- call append(t3, t7) : 46,46
      obtain ⟨hI, hc9, hw9⟩ := hR9
      have hz9 := hc9.size
      rw [List.nil_append] at hI
      have hSz := hS.size
      have hS := hS.step hc9 (fun k h => hfI k h)
      have hl := hQ.lt
      have hQ := hQ.chg hc9 (fun k hk h => hD k h hk)
      have hD : ∀ k, v8.ownBlock = some k → (Value.slice (some ⟨gQ, 0, none⟩) 0 0).ownBlock ≠ some k := by
        rcases hw9 with h | h
        · intro k hk; rw [h] at hk; exact hD k hk
        · intro k hk h2; have := h k hk; have := hl k h2; omega
      have hfI : ∀ k, v8.ownBlock = some k → w.heap.size ≤ k := by
        rcases hw9 with h | h
        · intro k hk; rw [h] at hk; exact hfI k hk
        · intro k hk; have := h k hk; omega
      refine ⟨hS, ?_⟩
      refine RH.one 11 (by kernel_rfl) ?_
      refine RS.st rfl (St.append Tryd.underlying38 Tryd.underlying38 ai_str rfl rfl hQ (Src.ownG (hR.objs.ext hS)) (one_flatS _) (by simp only [List.length_nil]; omega)) (by decide) fun v14 w10 hR10 => ?_   -- call append(t9, t13) : 38,38
      obtain ⟨hQ, hc10, hw10⟩ := hR10
      have hz10 := hc10.size
      rw [List.nil_append] at hQ
      have hSz := hS.size
      have hS := hS.step hc10 (fun k h => hfQ k h)
      have hl := hI.lt
      have hI := hI.chg hc10 (fun k hk h => hD k hk h)
      have hD : ∀ k, v8.ownBlock = some k → v14.ownBlock ≠ some k := by
        rcases hw10 with h | h
        · intro k hk h2; rw [h] at h2; exact hD k hk h2
        · intro k hk h2; have := h k h2; have := hl k hk; omega
      have hfQ : ∀ k, v14.ownBlock = some k → w.heap.size ≤ k := by
        rcases hw10 with h | h
        · intro k hk; rw [h] at hk; exact hfQ k hk
        · intro k hk; have := h k hk; omega
      obtain ⟨Ai, mi, ci, rfl⟩ := hI.lens
      obtain ⟨Aq, mq, cq, rfl⟩ := hQ.lens
      have hlI := hI.lt
      have hlQ := hQ.lt
      refine ⟨hS, ?_⟩
      refine RH.take 12 (fun _ _ _ _ h => h) (by kernel_rfl) hS rfl (by kernel_rfl) (by kernel_rfl) (fun wq hq => Y.build rfl (build_refStore _ _ _ _ _ _ _)) (by decide) ?_   -- t15 := build 48 [(0,t8), (1,t14)]
      refine RH.one 13 (by kernel_rfl) ?_
      refine RS.st rfl (St.box rfl rfl) (by decide) fun v16 w11 hR11 => ?_   -- box 48 t15
      obtain ⟨gB, rfl, hgB, hBB, hx11⟩ := hR11
      have hz11 := hx11.size
      have hS2 := hS.size
      have hS := hS.thenExt hx11
      have hI := hI.ext hx11
      have hQ := hQ.ext hx11
      refine ⟨hS, ?_⟩
      refine RH.take 14 (fun _ _ _ _ h => h) (by kernel_rfl) hS rfl (by kernel_rfl) (by kernel_rfl) (fun wq hq => Y.assign rfl) (by decide) ?_   -- t2 := assign t16
      refine RH.done (by kernel_rfl) ?_
      have hx12 := hS; have hz12 := hx12.size; have hE := hE.thenExt hx12; have hR := hR.ext hx12; have hB0 := hB0.ext hx12
      refine hK2 _ _ ?_; try clear hK2 K2
      refine CW.ret ⟨_, rfl, ?_⟩
      exact ⟨gB, _, _, rfl, by omega, ⟨hBB, hI, hQ, fun k hk => ⟨fun h => by have := hlI k hk; omega, hD k hk⟩, fun k hk h => by have := hlQ k hk; omega, hR0.few, hR0.short⟩, hfI, hfQ, hE⟩
  · skip
    refine RS.st rfl (St.buildSlice0 Tryd.underlying38 sz0_string) (by decide) fun v9 w13 hR13 => ?_   -- buildSlice 38 0 []
    obtain ⟨gQ, rfl, hgQ, hQ, hx13⟩ := hR13
    have hz13 := hx13.size
    have hS1 := hS.size
    have hS := hS.thenExt hx13
    have hS0 := hS
    have hfQ : ∀ k, (Value.slice (some ⟨gQ, 0, none⟩) 0 0).ownBlock = some k → w.heap.size ≤ k := fun k h => by simp [Value.ownBlock] at h; have := hS0.size; omega
    refine ⟨hS, ?_⟩
    refine RH.one 0 (by kernel_rfl) ?_
    refine RS.st rfl (St.buildSlice0 Tryd.underlying46 sz0_apiDigest) (by decide) fun v3 w14 hR14 => ?_   -- buildSlice 46 0 []
    obtain ⟨gI, rfl, hgI, hI, hx14⟩ := hR14
    have hz14 := hx14.size
    have hS1 := hS.size
    have hS := hS.thenExt hx14
    have hS0 := hS
    have hfI : ∀ k, (Value.slice (some ⟨gI, 0, none⟩) 0 0).ownBlock = some k → w.heap.size ≤ k := fun k h => by simp [Value.ownBlock] at h; have := hS0.size; omega
    have hl := hQ.lt
    have hQ := hQ.ext hx14
    have hD : ∀ k, (Value.slice (some ⟨gI, 0, none⟩) 0 0).ownBlock = some k → (Value.slice (some ⟨gQ, 0, none⟩) 0 0).ownBlock ≠ some k := fun k h1 h2 => by have := hl k h2; simp [Value.ownBlock] at h1; omega
    refine ⟨hS, ?_⟩
    refine RH.one 5 (by kernel_rfl) ?_
    refine RS.st rfl (St.append Tryd.underlying46 Tryd.underlying46 ai_dig rfl rfl hI (Src.ownG (hR.ids.ext hS)) (one_flatDg _) (by simp only [List.length_nil]; omega)) (by decide) fun v8 w15 hR15 => ?_   -- call append(t3, t7) : 46,46
    obtain ⟨hI, hc15, hw15⟩ := hR15
    have hz15 := hc15.size
    rw [List.nil_append] at hI
    have hSz := hS.size
    have hS := hS.step hc15 (fun k h => hfI k h)
    have hl := hQ.lt
    have hQ := hQ.chg hc15 (fun k hk h => hD k h hk)
    have hD : ∀ k, v8.ownBlock = some k → (Value.slice (some ⟨gQ, 0, none⟩) 0 0).ownBlock ≠ some k := by
      rcases hw15 with h | h
      · intro k hk; rw [h] at hk; exact hD k hk
      · intro k hk h2; have := h k hk; have := hl k h2; omega
    have hfI : ∀ k, v8.ownBlock = some k → w.heap.size ≤ k := by
      rcases hw15 with h | h
      · intro k hk; rw [h] at hk; exact hfI k hk
      · intro k hk; have := h k hk; omega
    refine ⟨hS, ?_⟩
    refine RH.one 11 (by kernel_rfl) ?_
    refine RS.st rfl (St.append Tryd.underlying38 Tryd.underlying38 ai_str rfl rfl hQ (Src.ownG (hR.objs.ext hS)) (one_flatS _) (by simp only [List.length_nil]; omega)) (by decide) fun v14 w16 hR16 => ?_   -- call append(t9, t13) : 38,38
    obtain ⟨hQ, hc16, hw16⟩ := hR16
    have hz16 := hc16.size
    rw [List.nil_append] at hQ
    have hSz := hS.size
    have hS := hS.step hc16 (fun k h => hfQ k h)
    have hl := hI.lt
    have hI := hI.chg hc16 (fun k hk h => hD k hk h)
    have hD : ∀ k, v8.ownBlock = some k → v14.ownBlock ≠ some k := by
      rcases hw16 with h | h
      · intro k hk h2; rw [h] at h2; exact hD k hk h2
      · intro k hk h2; have := h k h2; have := hl k hk; omega
    have hfQ : ∀ k, v14.ownBlock = some k → w.heap.size ≤ k := by
      rcases hw16 with h | h
      · intro k hk; rw [h] at hk; exact hfQ k hk
      · intro k hk; have := h k hk; omega
    obtain ⟨Ai, mi, ci, rfl⟩ := hI.lens
    obtain ⟨Aq, mq, cq, rfl⟩ := hQ.lens
    have hlI := hI.lt
    have hlQ := hQ.lt
    refine ⟨hS, ?_⟩
    refine RH.take 12 (fun _ _ _ _ h => h) (by kernel_rfl) hS rfl (by kernel_rfl) (by kernel_rfl) (fun wq hq => Y.build rfl (build_refStore _ _ _ _ _ _ _)) (by decide) ?_   -- t15 := build 48 [(0,t8), (1,t14)]
    refine RH.one 13 (by kernel_rfl) ?_
    refine RS.st rfl (St.box rfl rfl) (by decide) fun v16 w17 hR17 => ?_   -- box 48 t15
    obtain ⟨gB, rfl, hgB, hBB, hx17⟩ := hR17
    have hz17 := hx17.size
    have hS2 := hS.size
    have hS := hS.thenExt hx17
    have hI := hI.ext hx17
    have hQ := hQ.ext hx17
    refine ⟨hS, ?_⟩
    refine RH.take 14 (fun _ _ _ _ h => h) (by kernel_rfl) hS rfl (by kernel_rfl) (by kernel_rfl) (fun wq hq => Y.assign rfl) (by decide) ?_   -- t2 := assign t16
    refine RH.done (by kernel_rfl) ?_
    have hx18 := hS; have hz18 := hx18.size; have hE := hE.thenExt hx18; have hR := hR.ext hx18; have hB0 := hB0.ext hx18
    refine hK2 _ _ ?_; try clear hK2 K2
    refine CW.ret ⟨_, rfl, ?_⟩
    exact ⟨gB, _, _, rfl, by omega, ⟨hBB, hI, hQ, fun k hk => ⟨fun h => by have := hlI k hk; omega, hD k hk⟩, fun k hk h => by have := hlQ k hk; omega, hR0.few, hR0.short⟩, hfI, hfQ, hE⟩
end Go.Proofs.YtkbmlnkoejlgmaaDoor

/- A store's Copy, walked. No condition. -/
namespace Go.Pl
open Go.Fw
/-- Entries laid anew, one after the other. -/
def copE : Nat → List Ent → List Ent
  | _, [] => []
  | c, e :: r => { e with born := c } :: copE (c + 1) r
theorem copE_app : ∀ {c : Nat} {vs : List Ent} {e : Ent}, copE c (vs ++ [e]) = copE c vs ++ [{ e with born := c + vs.length }]
  | _, [], _ => rfl
  | c, x :: r, e => by
    rw [List.cons_append, copE, copE_app, copE, List.cons_append, List.length_cons, show c + 1 + r.length = c + (r.length + 1) by omega]
theorem copE_k : ∀ {c : Nat} {vs : List Ent}, (copE c vs).map Ent.k = vs.map Ent.k
  | _, [] => rfl
  | c, x :: r => by rw [copE, List.map_cons, List.map_cons, copE_k]
theorem copE_len : ∀ {c : Nat} {vs : List Ent}, (copE c vs).length = vs.length
  | _, [] => rfl
  | c, x :: r => by rw [copE, List.length_cons, List.length_cons, copE_len]
theorem copE_total : ∀ {c : Nat} {vs : List Ent}, total (copE c vs) = total vs
  | _, [] => rfl
  | c, x :: r => by
    have := copE_total (c := c + 1) (vs := r)
    simp only [total, copE, List.map_cons, List.sum_cons] at this ⊢
    omega
theorem copE_mem : ∀ {c : Nat} {vs : List Ent} {f : Ent}, f ∈ copE c vs → ∃ e ∈ vs, f.k = e.k ∧ f.v = e.v ∧ f.b = e.b ∧ c ≤ f.born ∧ f.born < c + vs.length
  | _, [], _, h => by cases h
  | c, x :: r, f, h => by
    rcases List.mem_cons.1 h with rfl | h
    · exact ⟨x, by simp, rfl, rfl, rfl, Nat.le_refl _, by rw [List.length_cons]; show c < _; omega⟩
    · obtain ⟨e, he, h1, h2, h3, h4, h5⟩ := copE_mem h
      exact ⟨e, by simp [he], h1, h2, h3, by omega, by rw [List.length_cons]; omega⟩
theorem copE_born : ∀ {c : Nat} {vs : List Ent}, ((copE c vs).map Ent.born).Nodup
  | _, [] => List.nodup_nil
  | c, x :: r => by
    rw [copE, List.map_cons, List.nodup_cons]
    refine ⟨fun h => ?_, copE_born⟩
    obtain ⟨f, hf, he⟩ := List.mem_map.1 h
    obtain ⟨_, _, _, _, _, h4, _⟩ := copE_mem hf
    rw [he] at h4
    exact absurd h4 (by show ¬ c + 1 ≤ c; omega)
abbrev Ent.kvb (e : Ent) : Dig × Value × List UInt8 := (e.k, e.v, e.b)
theorem copE_kvb : ∀ {c : Nat} {vs : List Ent}, (copE c vs).map Ent.kvb = vs.map Ent.kvb
  | _, [] => rfl
  | c, x :: r => by rw [copE, List.map_cons, List.map_cons, copE_kvb]
theorem unlike_inj {l : List Ent} (h : Unlike l) {x y : Ent} (hx : x ∈ l) (hy : y ∈ l) (he : x.k = y.k) : x = y := by
  obtain ⟨i, hi⟩ := List.mem_iff_getElem?.1 hx
  obtain ⟨j, hj⟩ := List.mem_iff_getElem?.1 hy
  have h1 : (l.map Ent.k)[i]? = some x.k := by simp [hi]
  have h2 : (l.map Ent.k)[j]? = some x.k := by simp [hj, he]
  have hlt := (List.getElem?_eq_some_iff.1 h1).1
  have e := (List.getElem?_inj hlt h).1 (h1.trans h2.symm)
  subst e
  exact Option.some.inj (hi.symm.trans hj)
theorem total_perm {a b : List Ent} (h : a.Perm b) : total a = total b := (h.map fun (e : Ent) => e.b.length).sum_nat
end Go.Pl
namespace Go.Proofs.YtkbmlnkoejlgmaaDoor
open Go.RowKit Go.Fw Go.Pl Go.Sort
theorem cop_new {l vs : List Ent} {e : Ent} {c : Nat} (h : Unlike l) (hs : ∀ x ∈ vs, x ∈ l) (he : e ∈ l) (hn : e ∉ vs) : mfind Ent.k e.k (copE c vs) 0 = none :=
  mfind_absent fun f hf hk => by
    obtain ⟨x, hx, h1, _⟩ := copE_mem hf
    exact hn ((unlike_inj h (hs x hx) he (h1.symm.trans hk)) ▸ hx)
theorem StoreAt.cop {w : World} {g r g2 r2 c : Nat} {l vs : List Ent} (hT : StoreAt w g r l) (hp : vs.Perm l) (hB : Blk w g2 TS_ (storeC r2 (total l))) (hM : MapAt w r2 Ent.me (copE c vs) (c + vs.length)) (hne : g2 ≠ r2) (hl : ∀ e ∈ l, ∀ k, e.v.ownBlock = some k → k ≠ g2 ∧ k ≠ r2) : StoreAt w g2 r2 (copE c vs) where
  blk := by rw [copE_total, total_perm hp]; exact hB
  map := ⟨_, hM, fun f hf => by obtain ⟨_, _, _, _, _, _, h⟩ := copE_mem hf; exact h⟩
  born := copE_born
  vals f hf := by obtain ⟨e, he, _, h2, h3, _⟩ := copE_mem hf; rw [h2, h3]; exact hT.vals e (hp.mem_iff.1 he)
  low f hf k hk := by
    obtain ⟨e, he, _, h2, _⟩ := copE_mem hf
    rw [h2] at hk
    have h1 := hl e (hp.mem_iff.1 he) k hk
    exact ⟨h1.1, h1.2, (hT.low e (hp.mem_iff.1 he) k hk).2.2⟩
  keys := by rw [Unlike, copE_k]; exact (hp.map Ent.k).nodup_iff.2 hT.keys
  few := by rw [copE_len, hp.length_eq]; exact hT.few
  short f hf := by obtain ⟨e, he, _, _, h3, _⟩ := copE_mem hf; rw [h3]; exact hT.short e (hp.mem_iff.1 he)
  ne := hne

set_option maxRecDepth 100000 in
set_option maxHeartbeats 1000000 in
theorem stCopy_any (g r : Nat) (l : List Ent) (w : World) (hT : StoreAt w g r l) : Calls Tryd.prog 18 #[.pointer (some ⟨g, 0, none⟩)] w (Ret fun v w' => ∃ g' r' l', v = .pointer (some ⟨g', 0, none⟩) ∧ w.heap.size ≤ g' ∧ w.heap.size ≤ r' ∧ StoreAt w' g' r' l' ∧ (l'.map Ent.kvb).Perm (l.map Ent.kvb) ∧ Ext w w') := by
  have hT0 := hT
  have hB0 := hT.blk
  have hfew := hT.few
  have hlow := hT.low
  have hltw := hT.lt
  refine calls_of_CW 34 [2] [(0, .pointer (some ⟨g, 0, none⟩))] Tryd.func18 rfl rfl rfl (by simp) args1 ?_
  have hE : Ext w w := Chg.refl
  refine CW.seq fun K1 hK1 => ?_
  refine CW.region ?_   -- region 0
  refine WL.val (Y.assign rfl) (by decide) ?_   -- t2 := assign c(['Go.Value.pointer', 'none'])
  refine WL.nil ?_
  refine hK1 _ _ ?_; try clear hK1 K1
  refine CW.seq fun K2 hK2 => ?_
  refine CW.seq fun K3 hK3 => ?_
  refine CW.region ?_   -- region 1
  refine WL.val (Y.move rfl) (by decide) ?_   -- t6 := move t0
  refine WL.call Tryd.func22 rfl rfl rfl (made_any g r l _ hT) (by simp) ?_; rintro v w1 ⟨rfl, hx1⟩; have hz1 := hx1.size; have hE := hE.thenExt hx1; have hT := hT.ext hx1; have hB0 := hB0.ext hx1   -- t7 := call F22(t6) : 23
  refine WL.val (Y.not rfl) (by decide) ?_   -- t8 := unOp not 4 t7
  refine WL.nil ?_
  refine hK3 _ _ ?_; try clear hK3 K3
  first | refine CW.condD rfl (fun ht4 => ?_) (fun ht4 => ?_) | refine CW.condND rfl (fun ht4 => ?_) (fun ht4 => ?_) | refine CW.condN rfl (fun ht4 => ?_) (fun ht4 => ?_) | refine CW.cond rfl (fun ht4 => ?_) (fun ht4 => ?_)
  · -- then
    refine CW.seq fun K5 hK5 => ?_
    refine CW.region ?_   -- region 2
    refine WL.val (Y.assign rfl) (by decide) ?_   -- t2 := assign c(['Go.Value.pointer', 'none'])
    refine WL.nil ?_
    refine hK5 _ _ ?_; try clear hK5 K5
    refine CW.ret ⟨_, rfl, ?_⟩
    exact absurd (show true = false by assumption) (by decide)
  -- else
  refine CW.skip ?_
  refine hK2 _ _ ?_; try clear hK2 K2
  refine CW.seq fun K6 hK6 => ?_
  refine CW.region ?_   -- region 3
  refine WL.call Tryd.func7 rfl rfl rfl (stNew_any _) (by simp) ?_; rintro v9 w2 hR2   -- t9 := call F7() : 
  obtain ⟨g2, r2, rfl, hg2, hr2, hT2, hx2⟩ := hR2
  have hz2 := hx2.size
  have hE := hE.thenExt hx2
  have hT := hT.ext hx2
  have hB0 := hB0.ext hx2
  have hB2 := hT2.blk
  obtain ⟨c0, hM2, _⟩ := hT2.map
  have hne2 := hT2.ne
  have hlt2 := hT2.lt
  refine WL.val (Y.assign rfl) (by decide) ?_   -- t3 := assign t9
  refine WL.nil ?_
  refine hK6 _ _ ?_; try clear hK6 K6
  refine CW.seq fun K7 hK7 => ?_
  refine CW.region ?_   -- region 4
  refine WL.val (Y.move rfl) (by decide) ?_   -- t10 := move t3
  refine WL.val (Y.move rfl) (by decide) ?_   -- t11 := move t0
  refine WL.val (Y.nilCheck rfl) (by decide) ?_   -- t12 := nilCheck t11
  refine WL.val (Y.fieldAddr fo_storeStore1 rfl) (by decide) ?_   -- t13 := fieldAddr 58 t12 1
  refine WL.val (Y.load1 Tryd.underlying3 rfl hB0.mem.storeStore1 rfl) (by decide) ?_   -- t14 := load 3 t13
  refine WL.val (Y.nilCheck rfl) (by decide) ?_   -- t15 := nilCheck t10
  refine WL.val (Y.fieldAddr fo_storeStore1 rfl) (by decide) ?_   -- t16 := fieldAddr 58 t15 1
  refine WL.store (g := g2) (pre := [.map (some r2)]) (old := [.int .i64 ((total [] : Nat) : Int)]) (post := []) (new := [.int .i64 (total l : Int)]) rfl rfl rfl rfl (by kernel_rfl) hB2 (by first | rfl | (simp [digC_length, opC_length]; done) | (simp only [digC_length, opC_length]; omega)) (one1 rfl) (fun w3 hc3 hB3_ => ?_)   -- _ := store 3 t16 t14
  have hz3 := hc3.size; have hE := hE.step hc3 (fun k h => by omega); have hT := hT.chg hc3 (fun h => by omega) (fun h => by omega) (fun e he k hk h => by have := hlow e he k hk; omega); have hB0 := hB0.chg hc3 (fun h => by omega)
  have hB2 : Blk w3 g2 TS_ (storeC r2 (total l)) := hB3_
  have hM2 := hM2.chg hc3 (fun h => hne2 h.symm)
  obtain ⟨cl, hMp, hold⟩ := hT.map
  refine WL.nil ?_
  refine hK7 _ _ ?_; try clear hK7 K7
  refine CW.seq fun K8 hK8 => ?_
  refine CW.seq fun K9 hK9 => ?_
  refine CW.region ?_   -- region 5
  refine WL.val (Y.move rfl) (by decide) ?_   -- t17 := move t0
  refine WL.val (Y.nilCheck rfl) (by decide) ?_   -- t18 := nilCheck t17
  refine WL.val (Y.fieldAddr fo_storeStore0 rfl) (by decide) ?_   -- t19 := fieldAddr 58 t18 0
  refine WL.val (Y.load1 Tryd.underlying56 rfl hB0.mem.storeStore0 rfl) (by decide) ?_   -- t20 := load 56 t19
  refine WL.st (St.range Tryd.underlying56 rfl hMp hold hT.born) (by decide) fun v21 w4 hR4 => ?_   -- t21 := range 56 t20
  obtain ⟨r21, rfl, hr21, hG, hx4⟩ := hR4
  have hz4 := hx4.size
  have hE := hE.thenExt hx4
  have hB2 := hB2.ext hx4
  have hM2 := hM2.ext hx4
  have hltr := hG.lt
  refine WL.nil ?_
  refine hK9 _ _ ?_; try clear hK9 K9
  refine CW.block ?_   -- block 0
  refine CW.loop (X := List Ent) (fun x => [(3, .pointer (some ⟨g2, 0, none⟩)), (21, .pointer (some ⟨r21, 0, none⟩))]) (fun x w0 => Going w0 r21 r Ent.me l cl x ∧ Blk w0 g2 TS_ (storeC r2 (total l)) ∧ MapAt w0 r2 Ent.me (copE c0 x) (c0 + x.length) ∧ Ext w w0 ∧ w4.heap.size ≤ w0.heap.size) (fun x => l.length - x.length) [] (by repeat (first | exact Fr.le.nil | refine Fr.le.cons rfl ?_)) ⟨hG, hB2, hM2, hE, Nat.le_refl _⟩ ?_
  intro x w5 hl5
  obtain ⟨hG, hB2, hM2, hE, hz5⟩ := hl5
  have hT := hT0.ext hE
  have hB0 := hT.blk
  have hltg := hG.lt
  refine CW.seq fun K10 hK10 => ?_
  refine CW.region ?_   -- region 6
  refine WL.st (St.next rfl hG) (by decide) fun v22 w6 hR6 => ?_   -- t22 := next t21 false
  obtain ⟨bt, rest, rfl, hc6, hcase⟩ := hR6
  have hz6 := hc6.size
  have hE := hE.step hc6 (fun k h => by omega)
  have hB2 := hB2.chg hc6 (fun h => by omega)
  have hM2 := hM2.chg hc6 (fun h => by omega)
  have hT := hT0.ext hE
  have hB0 := hT.blk
  refine WL.val (Y.extractT rfl) (by decide) ?_   -- t23 := extract t22 0
  refine WL.nil ?_
  refine hK10 _ _ ?_; try clear hK10 K10
  refine CW.seq fun K11 hK11 => ?_
  first | refine CW.condD rfl (fun ht12 => ?_) (fun ht12 => ?_) | refine CW.condND rfl (fun ht12 => ?_) (fun ht12 => ?_) | refine CW.condN rfl (fun ht12 => ?_) (fun ht12 => ?_) | refine CW.cond rfl (fun ht12 => ?_) (fun ht12 => ?_)
  · -- then
    refine CW.skip ?_
    refine hK11 _ _ ?_; try clear hK11 K11
    obtain ⟨e, hel, hev, hG⟩ : ∃ e, e ∈ l ∧ e ∉ x ∧ Going w6 r21 r Ent.me l cl (x ++ [e]) := by
      rcases hcase with ⟨_, h⟩ | ⟨h, _⟩
      · exact h
      · rw [h] at ht12; cases ht12
    refine CW.block ?_   -- block 1
    refine CW.seq fun K13 hK13 => ?_
    refine CW.region ?_   -- region 7
    refine WL.val (Y.entry rfl hG) (by decide) ?_   -- t24 := entry t21
    refine WL.val (Y.extract rfl rfl) (by decide) ?_   -- t25 := extract t24 0
    refine WL.val (Y.extract rfl rfl) (by decide) ?_   -- t26 := extract t24 1
    refine as_apiDigest rfl (by simp) (by decide) fun g4 w7 hx7 hg4 hB4 => ?_   -- alloc 28; store 28 t4 t25
    have hlt4 := hB4.lt; have hz7 := hx7.size
    have hM4 := hB4.mem; have hz7 := hx7.size; have hE := hE.thenExt hx7; have hT := hT.ext hx7; have hB0 := hB0.ext hx7
    refine WL.val (Y.assign rfl) (by decide) ?_   -- t5 := assign t26
    refine WL.nil ?_
    refine hK13 _ _ ?_; try clear hK13 K13
    refine CW.head 6 (by kernel_rfl) (by kernel_rfl) fun w8 hx8 => ?_   -- region 8
    skip; have hz8 := hx8.size; have hE := hE.thenExt hx8; have hT := hT.ext hx8; have hB0 := hB0.ext hx8; have hB4 := hB4.ext hx8
    refine HL.val (Y.move rfl) (by decide) ?_   -- t27 := move t3
    refine HL.val (Y.nilCheck rfl) (by decide) ?_   -- t28 := nilCheck t27
    refine HL.val (Y.fieldAddr fo_storeStore0 rfl) (by decide) ?_   -- t29 := fieldAddr 58 t28 0
    refine HL.val (Y.load1 Tryd.underlying56 rfl ((hB2.ext hx7).ext hx8).mem.storeStore0 rfl) (by decide) ?_   -- t30 := load 56 t29
    refine HL.val (Y.load Tryd.underlying28 rfl hB4.mem (sz_apiDigest _) rfl) (by decide) ?_   -- t31 := load 28 t4
    refine HL.val (Y.move rfl) (by decide) ?_   -- t32 := move t5
    refine HL.nil ?_
    refine WL.su (Su.mapNew (b := ({ e with born := c0 + x.length } : Ent)) keyDig (fun _ => rfl) UM rfl rfl rfl ((hM2.ext hx7).ext hx8) (cop_new hT0.keys (fun y hy => hG.sub y (by simp [hy])) hel hev) rfl) fun w9 hR9 => ?_   -- _ := mapUpdate 56 t30 t31 t32
    obtain ⟨hM9, hc9⟩ := hR9
    have hz9 := hc9.size
    have hE := hE.step hc9 (fun k h => by have h : k = r2 := h; omega)
    have hfl := hG.few
    rw [List.length_append, List.length_singleton] at hfl
    have hlg := hG.lt
    refine WL.nil ?_
    refine ⟨x ++ [e], by show l.length - (x ++ [e]).length < l.length - x.length; rw [List.length_append, List.length_singleton]; omega, (by repeat (first | exact Fr.le.nil | refine Fr.le.cons rfl ?_)), ((hG.ext hx7).ext hx8).chg hc9 (fun h => by omega) (fun h => by omega), ((hB2.ext hx7).ext hx8).chg hc9 (fun h => hne2 h), ?_, hE, by omega⟩
    rw [copE_app, List.length_append, List.length_singleton, ← Nat.add_assoc]
    exact hM9
  -- else
  refine CW.exit ?_   -- exit 0
  refine hK8 _ _ ?_; try clear hK8 K8
  refine CW.seq fun K14 hK14 => ?_
  refine CW.region ?_   -- region 9
  refine WL.val (Y.move rfl) (by decide) ?_   -- t33 := move t3
  refine WL.val (Y.assign rfl) (by decide) ?_   -- t2 := assign t33
  refine WL.nil ?_
  refine hK14 _ _ ?_; try clear hK14 K14
  refine CW.ret ⟨_, rfl, ?_⟩
  rcases hcase with ⟨h, _⟩ | ⟨_, hall, hG⟩
  · rw [h] at ht12; cases ht12
  have hp := hG.perm hall
  exact ⟨g2, r2, copE c0 x, rfl, by omega, by omega, hT.cop hp hB2 hM2 hne2 (fun e he k hk => by have := hlow e he k hk; omega), by rw [copE_kvb]; exact hp.map _, hE⟩
end Go.Proofs.YtkbmlnkoejlgmaaDoor

/- A store and the reference's store that hold the same: the plain law of StorePlays. No condition; no program. -/
namespace Go.Proofs.YtkbmlnkoejlgmaaDoor
open Go.RowKit Go.Fw Go.Pl Go.Sort
/-- What the reference's store has under a digest. -/
def rval (rs : RL) (d : Dig) : Option (List UInt8) := (rAt rs d).map fun p => p.2.2
abbrev RKeys (rs : RL) : Prop := (rs.map Prod.fst).Nodup
theorem rval_iff {rs : RL} (h : RKeys rs) {d : Dig} {x : List UInt8} : rval rs d = some x ↔ (d, x) ∈ rs := by
  constructor
  · intro hv
    obtain ⟨⟨j, e⟩, hp, rfl⟩ := Option.map_eq_some_iff.1 hv
    obtain ⟨_, hj, hk⟩ := mfind_some hp
    rw [← hk]
    exact List.mem_of_getElem? hj
  · intro he
    cases hp : rAt rs d with
    | none => exact absurd rfl (mfind_none hp _ he)
    | some p =>
      obtain ⟨j, f⟩ := p
      obtain ⟨_, hj, hk⟩ := mfind_some hp
      rw [Nat.sub_zero] at hj
      obtain ⟨i, hi⟩ := List.mem_iff_getElem?.1 he
      have hil := (List.getElem?_eq_some_iff.1 hi).1
      have h1 : (rs.map Prod.fst)[i]? = some d := by simp [hi]
      have h2 : (rs.map Prod.fst)[j]? = some d := by simp [hj, hk]
      have := (List.getElem?_inj (by simpa using hil) h).1 (h1.trans h2.symm)
      subst this
      rw [hi] at hj; cases hj
      simp [rval, hp]
/-- They hold the same. -/
structure Like (l : List Ent) (rs : RL) : Prop where
  keys : Unlike l
  rkeys : RKeys rs
  val : ∀ d, valOf l d = rval rs d
theorem Like.nil : Like [] [] := ⟨List.nodup_nil, List.nodup_nil, fun d => rfl⟩
abbrev Ent.kb (e : Ent) : Dig × List UInt8 := (e.k, e.b)
theorem Like.perm {l : List Ent} {rs : RL} (h : Like l rs) : (l.map Ent.kb).Perm rs := by
  refine (List.perm_ext_iff_of_nodup (pairs_nodup h.keys) ?_).2 fun ⟨d, x⟩ => ?_
  · have := h.rkeys
    unfold RKeys List.Nodup at this
    rw [List.pairwise_map] at this
    exact this.imp fun hne e => hne (congrArg Prod.fst e)
  · have h1 := valOf_iff h.keys (d := d) (x := x)
    rw [h.val, rval_iff h.rkeys] at h1
    rw [h1]
    simp only [List.mem_map, Prod.mk.injEq]
theorem Like.of_perm {l : List Ent} {rs : RL} (hk : Unlike l) (hp : (l.map Ent.kb).Perm rs) : Like l rs := by
  have hr : RKeys rs := by
    have := (hp.map Prod.fst).nodup_iff.1 (by rw [List.map_map]; exact hk)
    exact this
  refine ⟨hk, hr, fun d => ?_⟩
  have hi : ∀ x, valOf l d = some x ↔ rval rs d = some x := fun x => by
    rw [valOf_iff hk, rval_iff hr, ← hp.mem_iff]
    simp only [List.mem_map, Prod.mk.injEq]
  cases ha : valOf l d with
  | some x => exact ((hi x).1 ha).symm
  | none =>
    cases hb : rval rs d with
    | none => rfl
    | some x => rw [(hi x).2 hb] at ha; cases ha
theorem Like.len {l : List Ent} {rs : RL} (h : Like l rs) : l.length = rs.length := by simpa using h.perm.length_eq
theorem Like.total {l : List Ent} {rs : RL} (h : Like l rs) : total l = rsum rs rs.length := by
  have := (h.perm.map fun (p : Dig × List UInt8) => p.2.length).sum_nat
  rw [rsum, List.take_length]
  simpa [Go.Pl.total, List.map_map, Function.comp_def] using this
theorem Like.names {l : List Ent} {rs : RL} (h : Like l rs) : namesL l = srtD (rs.map Prod.fst) :=
  up_eq (namesL_up h.keys) (srt_up _ _ List.Pairwise.nil) fun x => by
    rw [namesL_mem, srtD, srt_mem]
    have hx := (h.perm.map Prod.fst).mem_iff (a := x)
    rw [List.map_map] at hx
    rw [← hx]
    simp
theorem Like.getB {l : List Ent} {rs : RL} (h : Like l rs) (d : Dig) : getB l d = rGetB rs d := by
  have hv := h.val d
  unfold valOf rval at hv
  unfold Go.Proofs.YtkbmlnkoejlgmaaDoor.getB rGetB
  cases ha : at_ l d <;> cases hb : rAt rs d <;> simp [ha, hb] at hv ⊢
  exact hv
theorem Like.isSome {l : List Ent} {rs : RL} (h : Like l rs) (d : Dig) : (at_ l d).isSome = true ↔ 0 ≤ rFind rs d := by
  have hv := h.val d
  unfold valOf rval at hv
  unfold rFind
  cases ha : at_ l d <;> cases hb : rAt rs d <;> simp [ha, hb] at hv ⊢
theorem Like.getI {l : List Ent} {rs : RL} (h : Like l rs) (d : Dig) : getI l d = rGetI rs d := by
  have hv := h.val d
  unfold valOf rval at hv
  unfold Go.Proofs.YtkbmlnkoejlgmaaDoor.getI rGetI
  cases ha : at_ l d <;> cases hb : rAt rs d <;> simp [ha, hb] at hv ⊢
theorem Like.putE {l : List Ent} {rs : RL} (h : Like l rs) (b : List UInt8) : putE l b = rPutE rs b := by
  unfold Go.Proofs.YtkbmlnkoejlgmaaDoor.putE rPutE
  have h1 := h.isSome (shaD b)
  rw [h.getB, h.len]
  by_cases hs : (at_ l (shaD b)).isSome = true
  · rw [if_pos hs, if_pos (h1.1 hs)]
  · rw [if_neg hs, if_neg (fun x => hs (h1.2 x))]
theorem Like.putD {l : List Ent} {rs : RL} (h : Like l rs) (b : List UInt8) : putD l b = rPutD rs b := by rw [Go.Proofs.YtkbmlnkoejlgmaaDoor.putD, rPutD, h.putE]
theorem Like.put {l l' : List Ent} {rs : RL} {b : List UInt8} (h : Like l rs) (hk : Unlike l') (hP : PutL l b l') : Like l' (rPutL rs b) := by
  have h1 := h.isSome (shaD b)
  unfold PutL at hP
  rw [h.putE] at hP
  by_cases hs : (at_ l (shaD b)).isSome = true
  · rw [if_neg (by rintro ⟨_, hn⟩; rw [hn] at hs; cases hs)] at hP
    subst hP
    rw [rPutL_same (.inr (h1.1 hs))]
    exact h
  · have hn : at_ l (shaD b) = none := by simpa using hs
    by_cases he : rPutE rs b = 0
    · rw [if_pos ⟨he, hn⟩] at hP
      obtain ⟨e, rfl, rfl', rfl''⟩ := hP
      rw [rPutL, if_pos ⟨he, fun x => hs (h1.2 x)⟩]
      refine Like.of_perm hk ?_
      rw [List.map_append]
      refine h.perm.append ?_
      simp [Ent.kb, rfl', rfl'']
    · rw [if_neg (fun x => he x.1)] at hP
      subst hP
      rw [rPutL_same (.inl he)]
      exact h
theorem Like.copy {l l' : List Ent} {rs : RL} (h : Like l rs) (hk : Unlike l') (hp : (l'.map Ent.kvb).Perm (l.map Ent.kvb)) : Like l' rs := by
  refine Like.of_perm hk (List.Perm.trans ?_ h.perm)
  have := hp.map fun p => (p.1, p.2.2)
  simpa [List.map_map, Function.comp_def] using this
theorem kb_erase {l : List Ent} {d : Dig} (h : Unlike l) {p : Dig × List UInt8} : p ∈ (dropL l d).map Ent.kb ↔ p ∈ l.map Ent.kb ∧ p.1 ≠ d := by
  constructor
  · intro hp
    obtain ⟨e, he, rfl⟩ := List.mem_map.1 hp
    refine ⟨List.mem_map.2 ⟨e, dropL_mem he, rfl⟩, fun hd => ?_⟩
    exact mfind_none (dropL_none (d := d) h) e he hd
  · rintro ⟨hp, hd⟩
    obtain ⟨e, he, rfl⟩ := List.mem_map.1 hp
    refine List.mem_map.2 ⟨e, ?_, rfl⟩
    unfold dropL
    split
    · rename_i q hq
      obtain ⟨j, f⟩ := q
      obtain ⟨_, hj, hk⟩ := mfind_some hq
      rw [Nat.sub_zero] at hj
      obtain ⟨i, hi⟩ := List.mem_iff_getElem?.1 he
      exact List.mem_eraseIdx_iff_getElem?.2 ⟨i, fun hij => hd (by subst hij; rw [hi] at hj; cases hj; exact hk), hi⟩
    · exact he
theorem dropL_unlike {l : List Ent} {d : Dig} (h : Unlike l) : Unlike (dropL l d) := by
  unfold dropL
  split
  · exact unlike_erase h
  · exact h
theorem rDrop_is (rs : RL) (d : Dig) : rDropL rs d = match rAt rs d with | some p => rs.eraseIdx p.1 | none => rs := by
  unfold rDropL skipL rFind
  cases hp : rAt rs d with
  | none => rw [if_neg (by dsimp only; omega), List.take_length]
  | some p =>
    obtain ⟨_, hj, _⟩ := mfind_some hp
    rw [Nat.sub_zero] at hj
    have := (List.getElem?_eq_some_iff.1 hj).1
    dsimp only
    rw [if_pos (by omega), List.take_length, Int.toNat_natCast]
theorem rDrop_keys {rs : RL} {d : Dig} (h : RKeys rs) : RKeys (rDropL rs d) := by
  rw [rDrop_is]
  split
  · exact List.Nodup.sublist ((List.eraseIdx_sublist _ _).map Prod.fst) h
  · exact h
theorem rDrop_mem {rs : RL} {d : Dig} (h : RKeys rs) {p : Dig × List UInt8} : p ∈ rDropL rs d ↔ p ∈ rs ∧ p.1 ≠ d := by
  rw [rDrop_is]
  split
  · rename_i q hq
    obtain ⟨j, f⟩ := q
    obtain ⟨_, hj, hk⟩ := mfind_some hq
    rw [Nat.sub_zero] at hj
    dsimp only
    rw [List.mem_eraseIdx_iff_getElem?]
    constructor
    · rintro ⟨i, hne, hi⟩
      refine ⟨List.mem_of_getElem? hi, fun hd => hne ?_⟩
      have h1 : (rs.map Prod.fst)[i]? = some d := by simp [hi, hd]
      have h2 : (rs.map Prod.fst)[j]? = some d := by simp [hj, hk]
      exact (List.getElem?_inj (List.getElem?_eq_some_iff.1 h1).1 h).1 (h1.trans h2.symm)
    · rintro ⟨hp, hd⟩
      obtain ⟨i, hi⟩ := List.mem_iff_getElem?.1 hp
      exact ⟨i, fun hij => hd (by subst hij; rw [hi] at hj; cases hj; exact hk), hi⟩
  · rename_i hn
    exact ⟨fun hp => ⟨hp, mfind_none hn p hp⟩, fun hp => hp.1⟩
theorem Like.drop {l : List Ent} {rs : RL} (h : Like l rs) (d : Dig) : Like (dropL l d) (rDropL rs d) := by
  refine Like.of_perm (dropL_unlike h.keys) ((List.perm_ext_iff_of_nodup (pairs_nodup (dropL_unlike h.keys)) ?_).2 fun p => ?_)
  · have := rDrop_keys (d := d) h.rkeys
    unfold RKeys List.Nodup at this
    rw [List.pairwise_map] at this
    exact this.imp fun hne e => hne (congrArg Prod.fst e)
  · rw [kb_erase h.keys, rDrop_mem h.rkeys, h.perm.mem_iff]
end Go.Proofs.YtkbmlnkoejlgmaaDoor

/- stands: a store against the reference's, walked. No condition. -/
namespace Go.Proofs.YtkbmlnkoejlgmaaDoor
open Go.RowKit Go.Fw Go.Pl Go.Sort
theorem Y.neq_sameL {P : Program} {n : NN} {fr : Fr} {w : World} {ty : TypeId} {x y : Operand} {p q : List UInt8} {t t' : TypeId} (hx : ev fr x = some (.string (bs p))) (hy : ev fr y = some (.string (bs q))) (h : p = q) : Yw P n fr (.binOp .neq t x y t') ty w (.bool false) w := by subst h; exact Y.neq_same hx hy
theorem u8_inc (y : UInt8) : IntKind.u8.wrap ((y.toNat : Int) + 1) = ((y + 1).toNat : Int) := by
  simp [IntKind.wrap, IntKind.bits, IntKind.signed]
theorem split_at {ys : List UInt8} {x : Nat} {y : UInt8} (h : ys[x]? = some y) : bytesC (ys.take x) ++ [bc y] ++ bytesC (ys.drop (x + 1)) = bytesC ys := by
  obtain ⟨hl, rfl⟩ := List.getElem?_eq_some_iff.1 h
  have h1 : ys = ys.take x ++ ys[x] :: ys.drop (x + 1) := by rw [← List.drop_eq_getElem_cons hl, List.take_append_drop]
  have h2 := congrArg (List.map bc) h1
  rw [List.map_append, List.map_cons] at h2
  simp only [bytesC, List.append_assoc, List.singleton_append]
  exact h2.symm
theorem own_block {w : World} {e : TypeId} {k m c : Nat} {A : Option Addr} {xs : List Value} (h : Own w e k (.slice A m c) xs) (hm : 0 < m) : ∃ g, A = some ⟨g, 0, none⟩ := by
  rcases h with ⟨h, _⟩ | ⟨g, n, cap, rest, fz, h, _⟩
  · injection h with h1 h2; omega
  · injection h with h1; exact ⟨g, h1⟩

set_option maxRecDepth 100000 in
set_option maxHeartbeats 2000000 in
theorem stands_any (g r g2 : Nat) (u v : Value) (l : List Ent) (rs : RL) (w : World) (hT : StoreAt w g r l) (hR : RAt w g2 u v rs) (hL : Like l rs) : Calls Tryd.prog 21 #[.pointer (some ⟨g, 0, none⟩), .pointer (some ⟨g2, 0, none⟩)] w (Ret (True_ w)) := by
  have hT0 := hT
  obtain ⟨A, m, c, rfl⟩ := hR.ids.lens
  obtain ⟨B, n, cb, rfl⟩ := hR.objs.lens
  have hR0 := hR
  have hfew := hT.few
  have hfr := hR.few
  have hul := hR.ids.lt
  have hvl := hR.objs.lt
  have hg2l := hR.blk.lt
  have hlow := hT.low
  have hgl0 := hT.lt
  refine calls_of_CNs 75 4 [(0, .pointer (some ⟨g, 0, none⟩)), (1, .pointer (some ⟨g2, 0, none⟩))] Tryd.func21 rfl rfl rfl Tryd.underlying4 rfl (by simp) args2 ?_
  have hE : Ext w w := Chg.refl
  refine CN.seq fun K1 hK1 => ?_
  refine CN.of_CW ?_
  refine CW.region ?_   -- region 0
  refine WL.box rfl rfl (by first | decide | exact Nat.le_of_ble_eq_true rfl) fun g3 w1 hx1 hg3 hB3 => ?_   -- t3 := box 45 t1
  have hlt3 := hB3.lt; have hz1 := hx1.size
  have hM3 := hB3.mem; have hz1 := hx1.size; have hE := hE.thenExt hx1; have hT := hT.ext hx1; have hR := hR.ext hx1
  refine WL.alloc1 (z := .bool false) (by kernel_rfl) rfl (by first | decide | exact Nat.le_of_ble_eq_true rfl) fun g4 w2 hx2 hg4 hB4 => ?_   -- t4 := alloc 4
  have hlt4 := hB4.lt; have hz2 := hx2.size
  have hM4 := hB4.mem; have hz2 := hx2.size; have hE := hE.thenExt hx2; have hT := hT.ext hx2; have hR := hR.ext hx2; have hB3 := hB3.ext hx2
  refine WL.nil ?_
  refine hK1 _ _ _ ?_; try clear hK1 K1
  refine CN.seq fun K2 hK2 => ?_
  refine CN.of_CW ?_
  refine CW.region ?_   -- region 1
  refine WL.val (Y.load1 Tryd.underlying45 rfl hB3.mem.cell0 rfl) (by first | decide | exact Nat.le_of_ble_eq_true rfl) ?_   -- t12 := load 45 t3
  refine WL.val (Y.nilCheck rfl) (by first | decide | exact Nat.le_of_ble_eq_true rfl) ?_   -- t13 := nilCheck t12
  refine WL.val (Y.fieldAddr fo_recensionref11Store0 rfl) (by first | decide | exact Nat.le_of_ble_eq_true rfl) ?_   -- t14 := fieldAddr 48 t13 0
  refine WL.val (Y.load1 Tryd.underlying46 rfl hR.blk.mem.recensionref11Store0 rfl) (by first | decide | exact Nat.le_of_ble_eq_true rfl) ?_   -- t15 := load 46 t14
  refine WL.call Tryd.func33 rfl rfl rfl (sorted_any _ (rs.map Prod.fst) _ (hR.ids.sl digC_length (by decide)) (by rw [List.length_map]; omega)) (by simp) ?_; rintro v16 w3 hR3   -- t16 := call F33(t15) : 46
  obtain ⟨hO16, hf16, hx3⟩ := hR3
  have hz3 := hx3.size
  have hE := hE.thenExt hx3
  have hT := hT.ext hx3
  have hR := hR.ext hx3
  have hB3 := hB3.ext hx3
  have hB4 := hB4.ext hx3
  obtain ⟨A5, m5, c5, rfl⟩ := hO16.lens
  have hl16 := hO16.lt
  rw [← hL.names] at hO16
  have hm5 := (Own.len digC_length (by decide) hO16).1
  rw [namesL_length] at hm5
  refine WL.allocStore1 (by kernel_rfl) rfl (by simp) rfl rfl (by first | decide | exact Nat.le_of_ble_eq_true rfl) fun g5 w4 hx4 hg5 hB5 => ?_   -- alloc 46; store 46 t5 t16
  have hlt5 := hB5.lt; have hz4 := hx4.size
  have hM5 := hB5.mem; have hz4 := hx4.size; have hE := hE.thenExt hx4; have hT := hT.ext hx4; have hR := hR.ext hx4; have hB3 := hB3.ext hx4; have hB4 := hB4.ext hx4
  refine WL.nil ?_
  refine hK2 _ _ _ ?_; try clear hK2 K2
  refine CN.seq fun K3 hK3 => ?_
  refine CN.of_CW ?_
  refine CW.region ?_   -- region 2
  refine WL.allocStore1 (by kernel_rfl) rfl (by simp) rfl rfl (by first | decide | exact Nat.le_of_ble_eq_true rfl) fun g6 w5 hx5 hg6 hB6 => ?_   -- alloc 3; store 3 t6 c(0:i64)
  have hlt6 := hB6.lt; have hz5 := hx5.size
  have hM6 := hB6.mem; have hz5 := hx5.size; have hE := hE.thenExt hx5; have hT := hT.ext hx5; have hR := hR.ext hx5; have hB3 := hB3.ext hx5; have hB4 := hB4.ext hx5; have hB5 := hB5.ext hx5
  refine WL.nil ?_
  refine hK3 _ _ _ ?_; try clear hK3 K3
  refine CN.seq fun K4 hK4 => ?_
  refine CN.seq fun K5 hK5 => ?_
  refine CN.of_CW ?_
  refine CW.region ?_   -- region 3
  refine WL.val (Y.move rfl) (by first | decide | exact Nat.le_of_ble_eq_true rfl) ?_   -- t17 := move t0
  refine WL.call Tryd.func16 rfl rfl rfl (sall_any ⟨g, 0, none⟩ _) (by simp) ?_; rintro v18 w6 hR6   -- t18 := call F16(t17) : 23
  obtain ⟨bx, rfl, hgb, hBb, hx6⟩ := hR6
  have hz6 := hx6.size
  have hE := hE.thenExt hx6
  have hT := hT.ext hx6
  have hR := hR.ext hx6
  have hB3 := hB3.ext hx6
  have hB4 := hB4.ext hx6
  have hB5 := hB5.ext hx6
  have hB6 := hB6.ext hx6
  have hI5 := hO16.ext ((hx4.thenExt hx5).thenExt hx6)
  refine WL.nil ?_
  refine hK5 _ _ _ ?_; try clear hK5 K5
  refine CN.block ?_   -- block 0
  refine CN.range (rfl) Tryd.func27 rfl rfl (sall1_any g r bx l _ hT hBb) (fun _ => rfl) (by first | decide | exact Nat.le_of_ble_eq_true rfl) (fun _ h => h.elim) (fun w1 s V hz hs i hk => by have := hs.lo; have := hk.1; omega) (fun s i V => s.bs.length = l.length ∧ w6.heap.size + 2 ≤ s.lo ∧ (∀ v ∈ s.bs, ∀ k, v.ownBlock = some k → s.lo ≤ k ∧ k < s.hi) ∧ Blk V g6 3 [.int .i64 (i : Int)] ∧ Chg (fun k => k = g6) w6 V) (fun _ _ _ => False) ?_ ?_ ?_ ?_ ?_ ?_
  · intro w1_ s_ V hw_ hz_ hc_ hs_
    exact ⟨by rw [hs_.len, namesL_length], by have := hs_.lo; omega, hs_.own, (hB6.ext hw_).ext hc_, (Chg.refl.thenExt hw_).thenExt hc_⟩
  · intro s_ i_ V V_ hi_ hc_
    obtain ⟨hbl, hlo, hown, hB6, hCC⟩ := hi_
    exact ⟨hbl, hlo, hown, hB6.chg hc_ (fun h => by rcases h with h | h; exact h; omega), hCC.trans hc_ (fun k hk h => by rcases h with h | h; exact h.elim; omega)⟩
  · intro s_ e_ V V_ hi_ hc_
    exact hi_.elim
  · intro s_ i_ x_ w7 hi_ hx_ hat_ hz_
    obtain ⟨hbl, hlo, hown, hB6, hCC⟩ := hi_
    have hzc := hCC.size
    have hE := hE.step hCC (fun k h => by omega)
    have hT := hT.chg hCC (fun h => by omega) (fun h => by omega) (fun e he k hk h => by have := hlow e he k hk; omega)
    have hR := hR.chg hCC (fun h => by omega) (fun k hk h => by have := hul k hk; omega) (fun k hk h => by have := hvl k hk; omega)
    have hB3 := hB3.chg hCC (fun h => by omega)
    have hB4 := hB4.chg hCC (fun h => by omega)
    have hB5 := hB5.chg hCC (fun h => by omega)
    have hI5 := hI5.chg hCC (fun k hk h => by have := hl16 k hk; omega)
    have hOx := hat_ x_ hx_
    obtain ⟨d, xv⟩ := x_
    dsimp only at hOx
    obtain ⟨hnd, hnv⟩ := List.getElem?_zip_eq_some.1 hx_
    have hxo := hown _ (List.mem_of_getElem? hnv)
    obtain ⟨Ax, mx, cx, rfl⟩ := hOx.lens
    have hxl := hOx.by.len.1
    have hxl7 := hOx.lt
    have hil : i_ < l.length := by
      have := (List.getElem?_eq_some_iff.1 hnd).1
      rw [namesL_length] at this; exact this
    have hgb2 := hL.getB d
    have hgl := getB_le hT d
    refine CW.seq fun K6 hK6 => ?_
    refine CW.region ?_   -- region 4
    refine as_apiDigest rfl (by simp) (by first | decide | exact Nat.le_of_ble_eq_true rfl) fun g7 w8 hx8 hg7 hB7 => ?_   -- alloc 28; store 28 t7 t19
    have hlt7 := hB7.lt; have hz8 := hx8.size
    have hM7 := hB7.mem; have hz8 := hx8.size; have hE := hE.thenExt hx8; have hT := hT.ext hx8; have hR := hR.ext hx8; have hB3 := hB3.ext hx8; have hB4 := hB4.ext hx8; have hB5 := hB5.ext hx8; have hB6 := hB6.ext hx8; have hI5 := hI5.ext hx8; have hOx := hOx.ext hx8
    refine WL.nil ?_
    refine hK6 _ _ ?_; try clear hK6 K6
    refine CW.region ?_   -- region 5
    refine WL.val (Y.assign rfl) (by first | decide | exact Nat.le_of_ble_eq_true rfl) ?_   -- t8 := assign t20
    refine WL.nil ?_
    have hE_ : Ext w7 w8 := hx8
    refine ⟨hE_, fun w9 hc_ => ?_⟩
    have hzd := hc_.size
    have hE := hE.step hc_ (fun k h => by omega)
    have hT := hT.chg hc_ (fun h => by omega) (fun h => by omega) (fun e he k hk h => by have := hlow e he k hk; omega)
    have hR := hR.chg hc_ (fun h => by omega) (fun k hk h => by have := hul k hk; omega) (fun k hk h => by have := hvl k hk; omega)
    have hB3 := hB3.chg hc_ (fun h => by omega)
    have hB4 := hB4.chg hc_ (fun h => by omega)
    have hB5 := hB5.chg hc_ (fun h => by omega)
    have hB6 := hB6.chg hc_ (fun h => by omega)
    have hB7 := hB7.chg hc_ (fun h => by omega)
    have hI5 := hI5.chg hc_ (fun k hk h => by have := hl16 k hk; omega)
    have hOx := hOx.chg hc_ (fun k hk h => by have := hxo k hk; omega)
    have hCC := (hCC.ext hE_).trans hc_ (fun k hk h => by omega)
    refine CW.block ?_   -- block 1
    refine CW.seq fun K7 hK7 => ?_
    obtain ⟨a5, rfl, hma⟩ := (hI5.sl digC_length (by decide)).at hnd
    refine CW.seq_testE 32 (False) ?_ ?_
    · refine CW.quiet (fun wq => Ext w9 wq) (by kernel_rfl) (by kernel_rfl) Chg.drew ?_
      refine QL.val (fun wq hq => Y.load1 Tryd.underlying3 rfl (hB6.ext hq).mem.cell0 rfl) (by first | decide | exact Nat.le_of_ble_eq_true rfl) ?_   -- t21 := load 3 t6
      refine QL.val (fun wq hq => Y.load1 Tryd.underlying46 rfl (hB5.ext hq).mem.cell0 rfl) (by first | decide | exact Nat.le_of_ble_eq_true rfl) ?_   -- t22 := load 46 t5
      refine QL.val (fun wq hq => Y.len_slice Tryd.underlying46 rfl) (by first | decide | exact Nat.le_of_ble_eq_true rfl) ?_   -- t23 := call len(t22) : 46
      refine QL.val (fun wq hq => Y.geq rfl rfl) (by first | decide | exact Nat.le_of_ble_eq_true rfl) ?_   -- t24 := binOp geq 3 t21 t23 3
      refine QL.val (fun wq hq => Y.move rfl) (by first | decide | exact Nat.le_of_ble_eq_true rfl) ?_   -- t25 := move t24
      first | refine QL.casesD (d := 25) rfl (fun hg25 => ?_) (fun hg25 => ?_) | refine QL.casesND (d := 25) rfl (fun hg25 => ?_) (fun hg25 => ?_) | refine QL.cases (d := 25) rfl (fun hg25 => ?_) (fun hg25 => ?_)
      · -- t25 = T
        refine QL.goff rfl rfl (by first | decide | exact Nat.le_of_ble_eq_true rfl) ?_   -- t26 := load 28 t7 [if 4=false]
        refine QL.goff rfl rfl (by first | decide | exact Nat.le_of_ble_eq_true rfl) ?_   -- t27 := load 46 t5 [if 4=false]
        refine QL.goff rfl rfl (by first | decide | exact Nat.le_of_ble_eq_true rfl) ?_   -- t28 := load 3 t6 [if 4=false]
        refine QL.goff rfl rfl (by first | decide | exact Nat.le_of_ble_eq_true rfl) ?_   -- t29 := indexAddr 46 t27 t28 [if 4=false]
        refine QL.goff rfl rfl (by first | decide | exact Nat.le_of_ble_eq_true rfl) ?_   -- t30 := load 28 t29 [if 4=false]
        refine QL.goff rfl rfl (by first | decide | exact Nat.le_of_ble_eq_true rfl) ?_   -- t31 := binOp neq 28 t26 t30 28 [if 4=false]
        refine QL.val (fun wq hq => Y.pick rfl rfl) (by first | decide | exact Nat.le_of_ble_eq_true rfl) ?_   -- t32 := pick t25 c(true) t31
        refine QL.nil fun wq hq => ⟨⟨_, rfl, ?_⟩, hq, (by repeat (first | exact Fr.le.refl | refine Fr.le.push rfl ?_))⟩
        first | (simp only [*, Int.natCast_inj, Bool.not_eq_true', decide_eq_false_iff_not, decide_eq_true_eq, not_true_eq_false, not_false_eq_true, true_and, false_and, and_true, and_false, false_or, or_false, true_or, or_true, iff_true, true_iff, iff_false, false_iff]; done) | (simp_all; done) | (refine congrArg Value.bool (Bool.eq_iff_iff.2 ?_); simp_all; done) | (simp_all; omega)
      · -- t25 = F
        refine QL.gval rfl rfl (fun wq hq => Y.load Tryd.underlying28 rfl (hB7.ext hq).mem (sz_apiDigest _) rfl) (by first | decide | exact Nat.le_of_ble_eq_true rfl) ?_   -- t26 := load 28 t7 [if 4=false]
        refine QL.gval rfl rfl (fun wq hq => Y.load1 Tryd.underlying46 rfl (hB5.ext hq).mem.cell0 rfl) (by first | decide | exact Nat.le_of_ble_eq_true rfl) ?_   -- t27 := load 46 t5 [if 4=false]
        refine QL.gval rfl rfl (fun wq hq => Y.load1 Tryd.underlying3 rfl (hB6.ext hq).mem.cell0 rfl) (by first | decide | exact Nat.le_of_ble_eq_true rfl) ?_   -- t28 := load 3 t6 [if 4=false]
        refine QL.gval rfl rfl (fun wq hq => Y.indexAddrN Tryd.underlying46 rfl rfl sz0_apiDigest (by omega)) (by first | decide | exact Nat.le_of_ble_eq_true rfl) ?_   -- t29 := indexAddr 46 t27 t28 [if 4=false]
        refine QL.gval rfl rfl (fun wq hq => Y.load Tryd.underlying28 rfl (hma.ext hq) (sz_apiDigest _) rfl) (by first | decide | exact Nat.le_of_ble_eq_true rfl) ?_   -- t30 := load 28 t29 [if 4=false]
        refine QL.gval rfl rfl (fun wq hq => Y.neq_apiDigest rfl rfl) (by first | decide | exact Nat.le_of_ble_eq_true rfl) ?_   -- t31 := binOp neq 28 t26 t30 28 [if 4=false]
        refine QL.val (fun wq hq => Y.pick rfl rfl) (by first | decide | exact Nat.le_of_ble_eq_true rfl) ?_   -- t32 := pick t25 c(true) t31
        refine QL.nil fun wq hq => ⟨⟨_, rfl, ?_⟩, hq, (by repeat (first | exact Fr.le.refl | refine Fr.le.push rfl ?_))⟩
        first | (simp only [*, Int.natCast_inj, Bool.not_eq_true', decide_eq_false_iff_not, decide_eq_true_eq, not_true_eq_false, not_false_eq_true, true_and, false_and, and_true, and_false, false_or, or_false, true_or, or_true, iff_true, true_iff, iff_false, false_iff]; done) | (simp_all; done) | (refine congrArg Value.bool (Bool.eq_iff_iff.2 ?_); simp_all; done) | (simp_all; omega)
    intro w10 hx10; have hz10 := hx10.size; have hE := hE.thenExt hx10; have hT := hT.ext hx10; have hR := hR.ext hx10; have hB3 := hB3.ext hx10; have hB4 := hB4.ext hx10; have hB5 := hB5.ext hx10; have hB6 := hB6.ext hx10; have hI5 := hI5.ext hx10; have hOx := hOx.ext hx10; have hB7 := hB7.ext hx10
    first | refine CW.condD rfl (fun ht8 => ?_) (fun ht8 => ?_) | refine CW.condND rfl (fun ht8 => ?_) (fun ht8 => ?_) | refine CW.condN rfl (fun ht8 => ?_) (fun ht8 => ?_) | refine CW.cond rfl (fun ht8 => ?_) (fun ht8 => ?_)
    · -- then
      refine CW.seq fun K9 hK9 => ?_
      refine CW.region ?_   -- region 7
      refine WL.store (g := g4) (pre := []) (old := [.bool false]) (post := []) (new := [.bool false]) rfl rfl rfl rfl (by kernel_rfl) (by simpa using hB4) (by first | rfl | (simp [digC_length, opC_length]; done) | (simp only [digC_length, opC_length]; omega)) (one1 rfl) (fun w11 hc11 hB11_ => ?_)   -- _ := store 4 t4 c(false)
      have hz11 := hc11.size; have hE := hE.step hc11 (fun k h => by omega); have hT := hT.chg hc11 (fun h => by omega) (fun h => by omega) (fun e he k hk h => by have := hlow e he k hk; omega); have hR := hR.chg hc11 (fun h => by omega) (fun k hk h => by have := hul k hk; omega) (fun k hk h => by have := hvl k hk; omega); have hB3 := hB3.chg hc11 (fun h => by omega); have hB5 := hB5.chg hc11 (fun h => by omega); have hB6 := hB6.chg hc11 (fun h => by omega); have hI5 := hI5.chg hc11 (fun k hk h => by have := hl16 k hk; have := hf16 k hk; omega); have hOx := hOx; have hB7 := hB7.chg hc11 (fun h => by omega)
      skip
      refine WL.nil ?_
      refine hK9 _ _ ?_; try clear hK9 K9
      refine CW.ret ?_
      exact False.elim (by assumption)
    -- else
    refine CW.skip ?_
    refine hK7 _ _ ?_; try clear hK7 K7
    refine CW.seq fun K10 hK10 => ?_
    refine CW.region ?_   -- region 8
    refine WL.val (Y.load1 Tryd.underlying45 rfl hB3.mem.cell0 rfl) (by first | decide | exact Nat.le_of_ble_eq_true rfl) ?_   -- t34 := load 45 t3
    refine WL.val (Y.load Tryd.underlying28 rfl hB7.mem (sz_apiDigest _) rfl) (by first | decide | exact Nat.le_of_ble_eq_true rfl) ?_   -- t35 := load 28 t7
    refine WL.call Tryd.func31 rfl rfl rfl (rGet_any g2 rs d _ ⟨_, _, hR⟩) (by simp) ?_; rintro v w12 ⟨rfl, hx12⟩; have hz12 := hx12.size; have hE := hE.thenExt hx12; have hT := hT.ext hx12; have hR := hR.ext hx12; have hB3 := hB3.ext hx12; have hB4 := hB4.ext hx12; have hB5 := hB5.ext hx12; have hB6 := hB6.ext hx12; have hI5 := hI5.ext hx12; have hOx := hOx.ext hx12; have hB7 := hB7.ext hx12   -- t36 := call F31(t34, t35) : 45,28
    refine WL.val (Y.move rfl) (by first | decide | exact Nat.le_of_ble_eq_true rfl) ?_   -- t33 := move t36
    refine WL.val (Y.extract rfl rfl) (by first | decide | exact Nat.le_of_ble_eq_true rfl) ?_   -- t37 := extract t33 0
    refine WL.val (Y.extract rfl rfl) (by first | decide | exact Nat.le_of_ble_eq_true rfl) ?_   -- t38 := extract t33 1
    refine WL.val (Y.assign rfl) (by first | decide | exact Nat.le_of_ble_eq_true rfl) ?_   -- t9 := assign t37
    refine WL.val (Y.assign rfl) (by first | decide | exact Nat.le_of_ble_eq_true rfl) ?_   -- t10 := assign t38
    refine WL.nil ?_
    refine hK10 _ _ ?_; try clear hK10 K10
    refine CW.seq fun K11 hK11 => ?_
    refine CW.seq fun K12 hK12 => ?_
    refine CW.region ?_   -- region 9
    refine WL.val (Y.move rfl) (by first | decide | exact Nat.le_of_ble_eq_true rfl) ?_   -- t39 := move t8
    refine WL.val (Y.bytes_string Tryd.underlying26 Tryd.underlying5 Tryd.underlying9 rfl hOx.by.len.1 hOx.by.mem.1 hOx.by.mem.2) (by first | decide | exact Nat.le_of_ble_eq_true rfl) ?_   -- t40 := convert 26 9 t39
    refine WL.val (Y.move rfl) (by first | decide | exact Nat.le_of_ble_eq_true rfl) ?_   -- t41 := move t9
    refine WL.val (Y.neq_sameL rfl rfl hgb2) (by first | decide | exact Nat.le_of_ble_eq_true rfl) ?_   -- t42 := binOp neq 9 t40 t41 9
    refine WL.nil ?_
    refine hK12 _ _ ?_; try clear hK12 K12
    first | refine CW.condD rfl (fun ht13 => ?_) (fun ht13 => ?_) | refine CW.condND rfl (fun ht13 => ?_) (fun ht13 => ?_) | refine CW.condN rfl (fun ht13 => ?_) (fun ht13 => ?_) | refine CW.cond rfl (fun ht13 => ?_) (fun ht13 => ?_)
    · -- then
      refine CW.seq fun K14 hK14 => ?_
      refine CW.region ?_   -- region 10
      refine WL.store (g := g4) (pre := []) (old := [.bool false]) (post := []) (new := [.bool false]) rfl rfl rfl rfl (by kernel_rfl) (by simpa using hB4) (by first | rfl | (simp [digC_length, opC_length]; done) | (simp only [digC_length, opC_length]; omega)) (one1 rfl) (fun w13 hc13 hB13_ => ?_)   -- _ := store 4 t4 c(false)
      have hz13 := hc13.size; have hE := hE.step hc13 (fun k h => by omega); have hT := hT.chg hc13 (fun h => by omega) (fun h => by omega) (fun e he k hk h => by have := hlow e he k hk; omega); have hR := hR.chg hc13 (fun h => by omega) (fun k hk h => by have := hul k hk; omega) (fun k hk h => by have := hvl k hk; omega); have hB3 := hB3.chg hc13 (fun h => by omega); have hB5 := hB5.chg hc13 (fun h => by omega); have hB6 := hB6.chg hc13 (fun h => by omega); have hI5 := hI5.chg hc13 (fun k hk h => by have := hl16 k hk; have := hf16 k hk; omega); have hOx := hOx; have hB7 := hB7.chg hc13 (fun h => by omega)
      skip
      refine WL.nil ?_
      refine hK14 _ _ ?_; try clear hK14 K14
      refine CW.ret ?_
      exact absurd (show false = true by assumption) (by decide)
    -- else
    refine CW.skip ?_
    refine hK11 _ _ ?_; try clear hK11 K11
    refine CW.seq fun K15 hK15 => ?_
    refine CW.seq fun K16 hK16 => ?_
    refine CW.region ?_   -- region 11
    refine WL.val (Y.move rfl) (by first | decide | exact Nat.le_of_ble_eq_true rfl) ?_   -- t43 := move t8
    refine WL.val (Y.len_slice Tryd.underlying26 rfl) (by first | decide | exact Nat.le_of_ble_eq_true rfl) ?_   -- t44 := call len(t43) : 26
    refine WL.val (Y.move rfl) (by first | decide | exact Nat.le_of_ble_eq_true rfl) ?_   -- t45 := move c(0:i64)
    refine WL.nil ?_
    refine hK16 _ _ ?_; try clear hK16 K16
    refine CW.block ?_   -- block 2
    refine CW.loop (X := Nat × List UInt8) (fun x => [(6, .pointer (some ⟨g6, 0, none⟩)), (8, .slice Ax mx cx), (44, .int .i64 (mx : Int)), (45, .int .i64 (x.1 : Int))]) (fun x w0 => x.1 ≤ mx ∧ x.2.length = mx ∧ Own w0 TU8 1 (.slice Ax mx cx) (bytesC x.2) ∧ Chg (fun k => (Value.slice Ax mx cx).ownBlock = some k) w12 w0) (fun x => mx - x.1) (0, getB l d) (by repeat (first | exact Fr.le.nil | refine Fr.le.cons rfl ?_)) ⟨Nat.zero_le _, hxl, hOx, Chg.refl⟩ ?_
    intro x w14 hl14
    obtain ⟨x, ys⟩ := x
    dsimp only at hl14 ⊢
    obtain ⟨hx, hyl, hOx, hCb⟩ := hl14
    have hzb := hCb.size
    have hE := hE.step hCb (fun k h => by have := hxo k h; omega)
    have hT := hT.chg hCb (fun h => by have := hxo _ h; omega) (fun h => by have := hxo _ h; omega) (fun e he k hk h => by have := hlow e he k hk; have := hxo _ h; omega)
    have hR := hR.chg hCb (fun h => by have := hxo _ h; omega) (fun k hk h => by have := hul k hk; have := hxo _ h; omega) (fun k hk h => by have := hvl k hk; have := hxo _ h; omega)
    have hB3 := hB3.chg hCb (fun h => by have := hxo _ h; omega)
    have hB4 := hB4.chg hCb (fun h => by have := hxo _ h; omega)
    have hB5 := hB5.chg hCb (fun h => by have := hxo _ h; omega)
    have hB6 := hB6.chg hCb (fun h => by have := hxo _ h; omega)
    have hB7 := hB7.chg hCb (fun h => by have := hxl7 _ h; omega)
    have hI5 := hI5.chg hCb (fun k hk h => by have := hl16 k hk; have := hxo k h; omega)
    refine CW.seq fun K17 hK17 => ?_
    refine CW.region ?_   -- region 12
    refine WL.val (Y.lss rfl rfl) (by first | decide | exact Nat.le_of_ble_eq_true rfl) ?_   -- t46 := binOp lss 3 t45 t44 3
    refine WL.nil ?_
    refine hK17 _ _ ?_; try clear hK17 K17
    refine CW.seq fun K18 hK18 => ?_
    first | refine CW.condD rfl (fun ht19 => ?_) (fun ht19 => ?_) | refine CW.condND rfl (fun ht19 => ?_) (fun ht19 => ?_) | refine CW.condN rfl (fun ht19 => ?_) (fun ht19 => ?_) | refine CW.cond rfl (fun ht19 => ?_) (fun ht19 => ?_)
    · -- then
      refine CW.skip ?_
      refine hK18 _ _ ?_; try clear hK18 K18
      refine CW.seq fun K20 hK20 => ?_
      refine CW.block ?_   -- block 3
      refine CW.seq fun K21 hK21 => ?_
      refine CW.region ?_   -- region 13
      refine WL.val (Y.move rfl) (by first | decide | exact Nat.le_of_ble_eq_true rfl) ?_   -- t47 := move t45
      refine WL.val (Y.assign rfl) (by first | decide | exact Nat.le_of_ble_eq_true rfl) ?_   -- t11 := assign t47
      refine WL.nil ?_
      refine hK21 _ _ ?_; try clear hK21 K21
      obtain ⟨y, hy⟩ : ∃ y, ys[x]? = some y := ⟨_, List.getElem?_eq_getElem (by omega)⟩
      obtain ⟨gx, rfl⟩ := own_block hOx (by omega)
      obtain ⟨_, he, hma⟩ := hOx.by.mem.1 (by omega)
      cases he
      have hgxo := hxo gx rfl
      have hgx7 := hxl7 gx rfl
      refine CW.region ?_   -- region 14
      refine WL.val (Y.move rfl) (by first | decide | exact Nat.le_of_ble_eq_true rfl) ?_   -- t48 := move t8
      refine WL.val (Y.move rfl) (by first | decide | exact Nat.le_of_ble_eq_true rfl) ?_   -- t49 := move t11
      refine WL.val (Y.indexAddrN Tryd.underlying26 rfl rfl sz0_uint8 (by omega)) (by first | decide | exact Nat.le_of_ble_eq_true rfl) ?_   -- t50 := indexAddr 26 t48 t49
      refine WL.val (Y.load1 Tryd.underlying5 rfl (hma (x * 1) _ (by rw [Nat.mul_one]; exact bytesC_get hy)) rfl) (by first | decide | exact Nat.le_of_ble_eq_true rfl) ?_   -- t51 := load 5 t50
      refine WL.val (Y.add_k rfl rfl) (by first | decide | exact Nat.le_of_ble_eq_true rfl) ?_   -- t52 := binOp add 5 t51 c(1:u8) 5
      refine WL.val (Y.indexAddrN Tryd.underlying26 rfl rfl sz0_uint8 (by omega)) (by first | decide | exact Nat.le_of_ble_eq_true rfl) ?_   -- t53 := indexAddr 26 t48 t49
      refine WL.storeO (g := gx) (pre := bytesC (ys.take x)) (old := [bc y]) (post := bytesC (ys.drop (x + 1))) (new := [bc (y + 1)]) rfl (by rw [add_zero', bytesC_length, List.length_take]; congr 1; omega) (by rw [u8_inc]; rfl) rfl (by kernel_rfl) (by rw [split_at hy]; exact hOx) (by first | rfl | (simp [digC_length, opC_length]; done) | (simp only [digC_length, opC_length]; omega)) (one1 rfl) (fun w15 hc15 hB15_ => ?_)   -- _ := store 5 t53 t52
      have hz15 := hc15.size; have hE := hE.step hc15 (fun k h => by omega); have hT := hT.chg hc15 (fun h => by omega) (fun h => by omega) (fun e he k hk h => by have := hlow e he k hk; omega); have hR := hR.chg hc15 (fun h => by omega) (fun k hk h => by have := hul k hk; omega) (fun k hk h => by have := hvl k hk; omega); have hB3 := hB3.chg hc15 (fun h => by omega); have hB4 := hB4.chg hc15 (fun h => by omega); have hB5 := hB5.chg hc15 (fun h => by omega); have hB6 := hB6.chg hc15 (fun h => by omega); have hI5 := hI5.chg hc15 (fun k hk h => by have := hl16 k hk; have := hf16 k hk; omega); have hOx := hOx; have hB7 := hB7.chg hc15 (fun h => by omega)
      skip
      refine WL.nil ?_
      refine hK20 _ _ ?_; try clear hK20 K20
      refine CW.region ?_   -- region 15
      refine WL.val (Y.add rfl rfl ⟨by omega, by omega⟩) (by first | decide | exact Nat.le_of_ble_eq_true rfl) ?_   -- t54 := binOp add 3 t45 c(1:i64) 3
      refine WL.val (Y.move rfl) (by first | decide | exact Nat.le_of_ble_eq_true rfl) ?_   -- t45 := move t54
      refine WL.nil ?_
      refine ⟨(x + 1, ys.take x ++ [y + 1] ++ ys.drop (x + 1)), by show mx - (x + 1) < mx - x; omega, (by repeat (first | exact Fr.le.nil | refine Fr.le.cons rfl ?_)), by show x + 1 ≤ mx; omega, ?_, ?_, ?_⟩
      · simp only [List.length_append, List.length_take, List.length_drop, List.length_singleton]; omega
      · show Own _ _ _ _ (bytesC (ys.take x ++ [y + 1] ++ ys.drop (x + 1)))
        simpa [bytesC] using hB15_
      · exact hCb.trans hc15 (fun k _ h => by rw [h]; rfl)
    -- else
    refine CW.exit ?_   -- exit 2
    refine hK15 _ _ ?_; try clear hK15 K15
    refine CW.region ?_   -- region 16
    refine WL.val (Y.load1 Tryd.underlying3 rfl hB6.mem.cell0 rfl) (by first | decide | exact Nat.le_of_ble_eq_true rfl) ?_   -- t55 := load 3 t6
    refine WL.val (Y.add rfl rfl ⟨by omega, by omega⟩) (by first | decide | exact Nat.le_of_ble_eq_true rfl) ?_   -- t56 := binOp add 3 t55 c(1:i64) 3
    refine WL.store (g := g6) (pre := []) (old := [.int .i64 (i_ : Int)]) (post := []) (new := [.int .i64 ((i_ : Int) + 1)]) rfl rfl rfl rfl (by kernel_rfl) (by simpa using hB6) (by first | rfl | (simp [digC_length, opC_length]; done) | (simp only [digC_length, opC_length]; omega)) (one1 rfl) (fun w16 hc16 hB16_ => ?_)   -- _ := store 3 t6 t56
    have hz16 := hc16.size; have hE := hE.step hc16 (fun k h => by omega); have hT := hT.chg hc16 (fun h => by omega) (fun h => by omega) (fun e he k hk h => by have := hlow e he k hk; omega); have hR := hR.chg hc16 (fun h => by omega) (fun k hk h => by have := hul k hk; omega) (fun k hk h => by have := hvl k hk; omega); have hB3 := hB3.chg hc16 (fun h => by omega); have hB4 := hB4.chg hc16 (fun h => by omega); have hB5 := hB5.chg hc16 (fun h => by omega); have hI5 := hI5.chg hc16 (fun k hk h => by have := hl16 k hk; have := hf16 k hk; omega); have hOx := hOx; have hB7 := hB7.chg hc16 (fun h => by omega)
    have hB6 : Blk w16 g6 3 [.int .i64 ((i_ : Int) + 1)] := by simpa using hB16_
    refine WL.nil ?_
    have hC : Chg (fun k => k = g6 ∨ (Value.slice Ax mx cx).ownBlock = some k) w9 w16 := ((Ext.chg (hx10.thenExt hx12)).trans hCb (fun k _ h => .inr h)).trans hc16 (fun k _ h => .inl h)
    refine ⟨⟨hbl, hlo, hown, by simpa using hB6, hCC.trans hC (fun k hk h => by rcases h with h | h; exact h; have := hxo k h; omega)⟩, hC.mono fun k _ h => ⟨fun hk => ?_, ?_, ?_⟩⟩
    · rcases h with h | h
      · have := hk.1; omega
      · exact hk.2.2 i_ _ (Nat.le_refl _) hnv h
    · rcases h with h | h
      · omega
      · have := hxo k h; omega
    · rcases h with h | h
      · omega
      · have := hxo k h; omega
  · intro s_ w17 hi_ hD_ hfin_
    obtain ⟨hbl, hlo, hown, hB6, hCC⟩ := hi_
    have hxl : (allXs l s_).length = l.length := by simp only [allXs, List.length_zip, namesL_length, hbl]; omega
    rw [hxl] at hB6
    have hzc := hCC.size
    have hE := hE.step hCC (fun k h => by omega)
    have hT := hT.chg hCC (fun h => by omega) (fun h => by omega) (fun e he k hk h => by have := hlow e he k hk; omega)
    have hR := hR.chg hCC (fun h => by omega) (fun k hk h => by have := hul k hk; omega) (fun k hk h => by have := hvl k hk; omega)
    have hB3 := hB3.chg hCC (fun h => by omega)
    have hB4 := hB4.chg hCC (fun h => by omega)
    have hB5 := hB5.chg hCC (fun h => by omega)
    refine hK4 _ _ _ ?_; try clear hK4 K4
    refine CN.seq fun K22 hK22 => ?_
    refine CN.of_CW ?_
    refine CW.held (fun wq => Chg (fun k => k = g4) w17 wq) (by kernel_rfl) 19 rfl fun w18 hx18 => ?_
    have hS : Chg (fun k => k = g4) w17 w18 := hx18.chg
    have hQ : Ext w17 w18 := hx18
    have hz18 := hx18.size
    refine RH.take 0 (fun _ _ _ _ h => h) (by kernel_rfl) hS rfl (by kernel_rfl) (by kernel_rfl) (fun wq hq => Y.load1 Tryd.underlying3 rfl (hB6.chg hq (fun h => by omega)).mem.cell0 rfl) (by first | decide | exact Nat.le_of_ble_eq_true rfl) ?_   -- t57 := load 3 t6
    refine RH.take 1 (fun _ _ _ _ h => h) (by kernel_rfl) hS rfl (by kernel_rfl) (by kernel_rfl) (fun wq hq => Y.load1 Tryd.underlying46 rfl (hB5.chg hq (fun h => by omega)).mem.cell0 rfl) (by first | decide | exact Nat.le_of_ble_eq_true rfl) ?_   -- t58 := load 46 t5
    refine RH.take 2 (fun _ _ _ _ h => h) (by kernel_rfl) hS rfl (by kernel_rfl) (by kernel_rfl) (fun wq hq => Y.len_slice Tryd.underlying46 rfl) (by first | decide | exact Nat.le_of_ble_eq_true rfl) ?_   -- t59 := call len(t58) : 46
    refine RH.take 3 (fun _ _ _ _ h => h) (by kernel_rfl) hS rfl (by kernel_rfl) (by kernel_rfl) (fun wq hq => Y.eql rfl rfl) (by first | decide | exact Nat.le_of_ble_eq_true rfl) ?_   -- t60 := binOp eql 3 t57 t59 3
    refine RH.take 4 (fun _ _ _ _ h => h) (by kernel_rfl) hS rfl (by kernel_rfl) (by kernel_rfl) (fun wq hq => Y.move rfl) (by first | decide | exact Nat.le_of_ble_eq_true rfl) ?_   -- t61 := move t60
    first | refine RH.casesD (d := 61) rfl (fun hg61 => ?_) (fun hg61 => ?_) | refine RH.cases (d := 61) rfl (fun hg61 => ?_) (fun hg61 => ?_)
    · -- t61 = T
      refine RH.gtake 5 (fun _ _ _ _ h => h) (by kernel_rfl) hS rfl (by kernel_rfl) (by kernel_rfl) rfl rfl (fun wq hq => Y.move rfl) (by first | decide | exact Nat.le_of_ble_eq_true rfl) ?_   -- t62 := move t0
      refine RH.gtake 7 (fun _ _ _ _ h => h) (by kernel_rfl) hS rfl (by kernel_rfl) (by kernel_rfl) rfl rfl (fun wq hq => Y.load1 Tryd.underlying46 rfl (hB5.chg hq (fun h => by omega)).mem.cell0 rfl) (by first | decide | exact Nat.le_of_ble_eq_true rfl) ?_   -- t64 := load 46 t5
      refine RH.gtake 8 (fun _ _ _ _ h => h) (by kernel_rfl) hS rfl (by kernel_rfl) (by kernel_rfl) rfl rfl (fun wq hq => Y.len_slice Tryd.underlying46 rfl) (by first | decide | exact Nat.le_of_ble_eq_true rfl) ?_   -- t65 := call len(t64) : 46
      refine RH.one 6 (by kernel_rfl) ?_
      refine RS.call rfl (fun _ _ h => by cases h; exact ⟨_, rfl, rfl⟩) Tryd.func12 rfl rfl rfl (stLen_any g r l _ (hT.ext hQ)) (by first | decide | exact Nat.le_of_ble_eq_true rfl) fun v63 w19 hR19 => ?_   -- call F12(t62) : 23
      obtain ⟨rfl, hx19⟩ := hR19
      have hz19 := hx19.size
      have hS := hS.thenExt hx19
      have hQ := hQ.thenExt hx19
      refine ⟨hS, ?_⟩
      refine RH.gtake 9 (fun _ _ _ _ h => h) (by kernel_rfl) hS rfl (by kernel_rfl) (by kernel_rfl) rfl rfl (fun wq hq => Y.eql rfl rfl) (by first | decide | exact Nat.le_of_ble_eq_true rfl) ?_   -- t66 := binOp eql 3 t63 t65 3
      refine RH.take 10 (fun _ _ _ _ h => h) (by kernel_rfl) hS rfl (by kernel_rfl) (by kernel_rfl) (fun wq hq => Y.pick rfl rfl) (by first | decide | exact Nat.le_of_ble_eq_true rfl) ?_   -- t67 := pick t61 t66 c(false)
      refine RH.take 11 (fun _ _ _ _ h => h) (by kernel_rfl) hS rfl (by kernel_rfl) (by kernel_rfl) (fun wq hq => Y.move rfl) (by first | decide | exact Nat.le_of_ble_eq_true rfl) ?_   -- t68 := move t67
      first | refine RH.casesD (d := 68) rfl (fun hg68 => ?_) (fun hg68 => ?_) | refine RH.cases (d := 68) rfl (fun hg68 => ?_) (fun hg68 => ?_)
      · -- t68 = T
        refine RH.gtake 12 (fun _ _ _ _ h => h) (by kernel_rfl) hS rfl (by kernel_rfl) (by kernel_rfl) rfl rfl (fun wq hq => Y.move rfl) (by first | decide | exact Nat.le_of_ble_eq_true rfl) ?_   -- t69 := move t0
        refine RH.gtake 14 (fun _ _ _ _ h => h) (by kernel_rfl) hS rfl (by kernel_rfl) (by kernel_rfl) rfl rfl (fun wq hq => Y.load1 Tryd.underlying45 rfl (hB3.chg hq (fun h => by omega)).mem.cell0 rfl) (by first | decide | exact Nat.le_of_ble_eq_true rfl) ?_   -- t71 := load 45 t3
        refine RH.one 13 (by kernel_rfl) ?_
        refine RS.call rfl (fun _ _ h => by cases h; exact ⟨_, rfl, rfl⟩) Tryd.func14 rfl rfl rfl (stSize_any g r l _ (hT.ext hQ)) (by first | decide | exact Nat.le_of_ble_eq_true rfl) fun v70 w20 hR20 => ?_   -- call F14(t69) : 23
        obtain ⟨rfl, hx20⟩ := hR20
        have hz20 := hx20.size
        have hS := hS.thenExt hx20
        have hQ := hQ.thenExt hx20
        refine ⟨hS, ?_⟩
        refine RH.one 15 (by kernel_rfl) ?_
        refine RS.call rfl (fun _ _ h => by cases h; exact ⟨_, rfl, rfl⟩) Tryd.func34 rfl rfl rfl (rSize_any g2 rs _ ⟨_, _, hR.ext hQ⟩) (by first | decide | exact Nat.le_of_ble_eq_true rfl) fun v72 w21 hR21 => ?_   -- call F34(t71) : 45
        obtain ⟨rfl, hx21⟩ := hR21
        have hz21 := hx21.size
        have hS := hS.thenExt hx21
        have hQ := hQ.thenExt hx21
        refine ⟨hS, ?_⟩
        refine RH.gtake 16 (fun _ _ _ _ h => h) (by kernel_rfl) hS rfl (by kernel_rfl) (by kernel_rfl) rfl rfl (fun wq hq => Y.eql rfl rfl) (by first | decide | exact Nat.le_of_ble_eq_true rfl) ?_   -- t73 := binOp eql 3 t70 t72 3
        refine RH.take 17 (fun _ _ _ _ h => h) (by kernel_rfl) hS rfl (by kernel_rfl) (by kernel_rfl) (fun wq hq => Y.pick rfl rfl) (by first | decide | exact Nat.le_of_ble_eq_true rfl) ?_   -- t74 := pick t68 t73 c(false)
        refine RH.one 18 (by kernel_rfl) ?_
        refine RS.store rfl (g := g4) (pre := []) (old := [.bool false]) (post := []) (new := [.bool (decide ((total l : Int) = (rsum rs rs.length : Int)))]) rfl rfl rfl rfl (by kernel_rfl) (by simpa using hB4.ext hQ) rfl (one1 rfl) (fun w22 hc22 hB22_ => ?_)   -- store 4 t4 t74
        have hB4 : Blk w22 g4 4 [.bool true] := by simpa [hL.total] using hB22_
        have hS := hS.trans hc22 (fun k _ h => h)
        refine ⟨hS, ?_⟩
        refine RH.done (by kernel_rfl) ?_
        have hE := hE.step hS (fun k h => by omega)
        have hzS := hS.size
        refine hK22 _ _ _ ?_; try clear hK22 K22
        refine CN.ret ?_
        exact ⟨[w6.heap.size], rfl, by simp, (fun D hD => by simp at hD; subst hD; exact def_chg hD_ hS (fun h => by omega)), fun w_ hc => ⟨_, _, rfl, ((hB4.chg hc (fun h => by simp at h; omega)).mem).cell0, rfl, hE.step hc (fun k h => by simp at h; omega)⟩⟩
      · -- t68 = F
        refine RH.goff 12 (fun _ _ _ _ h => h) (by kernel_rfl) hS rfl (by kernel_rfl) (by kernel_rfl) rfl rfl (by first | decide | exact Nat.le_of_ble_eq_true rfl) ?_   -- t69 := move t0
        refine RH.goff 13 (fun _ _ _ _ h => h) (by kernel_rfl) hS rfl (by kernel_rfl) (by kernel_rfl) rfl rfl (by first | decide | exact Nat.le_of_ble_eq_true rfl) ?_   -- t70 := call F14(t69) : 23
        refine RH.goff 14 (fun _ _ _ _ h => h) (by kernel_rfl) hS rfl (by kernel_rfl) (by kernel_rfl) rfl rfl (by first | decide | exact Nat.le_of_ble_eq_true rfl) ?_   -- t71 := load 45 t3
        refine RH.goff 15 (fun _ _ _ _ h => h) (by kernel_rfl) hS rfl (by kernel_rfl) (by kernel_rfl) rfl rfl (by first | decide | exact Nat.le_of_ble_eq_true rfl) ?_   -- t72 := call F34(t71) : 45
        refine RH.goff 16 (fun _ _ _ _ h => h) (by kernel_rfl) hS rfl (by kernel_rfl) (by kernel_rfl) rfl rfl (by first | decide | exact Nat.le_of_ble_eq_true rfl) ?_   -- t73 := binOp eql 3 t70 t72 3
        refine RH.take 17 (fun _ _ _ _ h => h) (by kernel_rfl) hS rfl (by kernel_rfl) (by kernel_rfl) (fun wq hq => Y.pick rfl rfl) (by first | decide | exact Nat.le_of_ble_eq_true rfl) ?_   -- t74 := pick t68 t73 c(false)
        refine RH.one 18 (by kernel_rfl) ?_
        refine RS.store rfl (g := g4) (pre := []) (old := [.bool false]) (post := []) (new := [.bool false]) rfl rfl rfl rfl (by kernel_rfl) (by simpa using hB4.ext hQ) rfl (one1 rfl) (fun w23 hc23 hB23_ => ?_)   -- store 4 t4 t74
        have hS := hS.trans hc23 (fun k _ h => h)
        refine ⟨hS, ?_⟩
        refine RH.done (by kernel_rfl) ?_
        have hE := hE.step hS (fun k h => by omega)
        refine hK22 _ _ _ ?_; try clear hK22 K22
        refine CN.ret ?_
        exfalso
        first | omega | simp_all
    · -- t61 = F
      refine RH.goff 5 (fun _ _ _ _ h => h) (by kernel_rfl) hS rfl (by kernel_rfl) (by kernel_rfl) rfl rfl (by first | decide | exact Nat.le_of_ble_eq_true rfl) ?_   -- t62 := move t0
      refine RH.goff 6 (fun _ _ _ _ h => h) (by kernel_rfl) hS rfl (by kernel_rfl) (by kernel_rfl) rfl rfl (by first | decide | exact Nat.le_of_ble_eq_true rfl) ?_   -- t63 := call F12(t62) : 23
      refine RH.goff 7 (fun _ _ _ _ h => h) (by kernel_rfl) hS rfl (by kernel_rfl) (by kernel_rfl) rfl rfl (by first | decide | exact Nat.le_of_ble_eq_true rfl) ?_   -- t64 := load 46 t5
      refine RH.goff 8 (fun _ _ _ _ h => h) (by kernel_rfl) hS rfl (by kernel_rfl) (by kernel_rfl) rfl rfl (by first | decide | exact Nat.le_of_ble_eq_true rfl) ?_   -- t65 := call len(t64) : 46
      refine RH.goff 9 (fun _ _ _ _ h => h) (by kernel_rfl) hS rfl (by kernel_rfl) (by kernel_rfl) rfl rfl (by first | decide | exact Nat.le_of_ble_eq_true rfl) ?_   -- t66 := binOp eql 3 t63 t65 3
      refine RH.take 10 (fun _ _ _ _ h => h) (by kernel_rfl) hS rfl (by kernel_rfl) (by kernel_rfl) (fun wq hq => Y.pick rfl rfl) (by first | decide | exact Nat.le_of_ble_eq_true rfl) ?_   -- t67 := pick t61 t66 c(false)
      refine RH.take 11 (fun _ _ _ _ h => h) (by kernel_rfl) hS rfl (by kernel_rfl) (by kernel_rfl) (fun wq hq => Y.move rfl) (by first | decide | exact Nat.le_of_ble_eq_true rfl) ?_   -- t68 := move t67
      refine RH.goff 12 (fun _ _ _ _ h => h) (by kernel_rfl) hS rfl (by kernel_rfl) (by kernel_rfl) rfl rfl (by first | decide | exact Nat.le_of_ble_eq_true rfl) ?_   -- t69 := move t0
      refine RH.goff 13 (fun _ _ _ _ h => h) (by kernel_rfl) hS rfl (by kernel_rfl) (by kernel_rfl) rfl rfl (by first | decide | exact Nat.le_of_ble_eq_true rfl) ?_   -- t70 := call F14(t69) : 23
      refine RH.goff 14 (fun _ _ _ _ h => h) (by kernel_rfl) hS rfl (by kernel_rfl) (by kernel_rfl) rfl rfl (by first | decide | exact Nat.le_of_ble_eq_true rfl) ?_   -- t71 := load 45 t3
      refine RH.goff 15 (fun _ _ _ _ h => h) (by kernel_rfl) hS rfl (by kernel_rfl) (by kernel_rfl) rfl rfl (by first | decide | exact Nat.le_of_ble_eq_true rfl) ?_   -- t72 := call F34(t71) : 45
      refine RH.goff 16 (fun _ _ _ _ h => h) (by kernel_rfl) hS rfl (by kernel_rfl) (by kernel_rfl) rfl rfl (by first | decide | exact Nat.le_of_ble_eq_true rfl) ?_   -- t73 := binOp eql 3 t70 t72 3
      refine RH.take 17 (fun _ _ _ _ h => h) (by kernel_rfl) hS rfl (by kernel_rfl) (by kernel_rfl) (fun wq hq => Y.pick rfl rfl) (by first | decide | exact Nat.le_of_ble_eq_true rfl) ?_   -- t74 := pick t68 t73 c(false)
      refine RH.one 18 (by kernel_rfl) ?_
      refine RS.store rfl (g := g4) (pre := []) (old := [.bool false]) (post := []) (new := [.bool false]) rfl rfl rfl rfl (by kernel_rfl) (by simpa using hB4.ext hQ) rfl (one1 rfl) (fun w24 hc24 hB24_ => ?_)   -- store 4 t4 t74
      have hS := hS.trans hc24 (fun k _ h => h)
      refine ⟨hS, ?_⟩
      refine RH.done (by kernel_rfl) ?_
      have hE := hE.step hS (fun k h => by omega)
      refine hK22 _ _ _ ?_; try clear hK22 K22
      refine CN.ret ?_
      exfalso
      first | omega | simp_all
  · intro s_ e_ w25 hi_ hD_ hfin_ he_
    obtain ⟨rfl, hi_⟩ := hi_
    skip
    skip
end Go.Proofs.YtkbmlnkoejlgmaaDoor
