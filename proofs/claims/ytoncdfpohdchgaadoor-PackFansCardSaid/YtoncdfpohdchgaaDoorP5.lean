/- Several texts as one: Pf, Pt, Pz, Pi. -/
import Derived.Test.YtoncdfpohdchgaaDoorM2
import Derived.Test.YtoncdfpohdchgaaDoorP4
import Derived.ChangeKeysEq
set_option linter.unusedSimpArgs false
set_option linter.unusedVariables false
/- The plain law of fans: how many digests have a first byte up to any one. No condition; no program run. -/
namespace Go.Fw
/-- 256 numbers as cells. -/
def fanC (f : Nat → Nat) : List Value := (List.range 256).map fun i => .int .i64 (f i : Int)
def upd (f : Nat → Nat) (i v : Nat) : Nat → Nat := fun j => if j = i then v else f j
theorem fanC_length (f : Nat → Nat) : (fanC f).length = 256 := by simp [fanC]
theorem fanC_get (f : Nat → Nat) {i : Nat} (h : i < 256) : (fanC f)[i]? = some (.int .i64 (f i : Int)) := by simp [fanC, h]
theorem fanC_upd (f : Nat → Nat) {i : Nat} (v : Nat) : fanC (upd f i v) = (fanC f).set i (.int .i64 (v : Int)) := by
  apply List.ext_getElem?
  intro j
  by_cases hj : j < 256
  · rw [fanC_get _ hj]
    by_cases h : j = i
    · subst h; rw [List.getElem?_set_self (by rw [fanC_length]; exact hj), upd, if_pos rfl]
    · rw [List.getElem?_set_ne (fun x => h x.symm), fanC_get _ hj, upd, if_neg h]
  · rw [List.getElem?_eq_none (by rw [fanC_length]; omega), List.getElem?_eq_none (by rw [List.length_set, fanC_length]; omega)]
theorem fan_set (f : Nat → Nat) {i : Nat} (v : Nat) (h : i < 256) : fanC f = (fanC f).take i ++ [.int .i64 (f i : Int)] ++ (fanC f).drop (i + 1) ∧ fanC (upd f i v) = (fanC f).take i ++ [.int .i64 (v : Int)] ++ (fanC f).drop (i + 1) := by
  have hl := fanC_length f
  have hg := fanC_get f h
  obtain ⟨hi, he⟩ := List.getElem?_eq_some_iff.1 hg
  constructor
  · have e : fanC f = (fanC f).take i ++ ([(fanC f)[i]] ++ (fanC f).drop (i + 1)) := by
      rw [List.singleton_append, ← List.drop_eq_getElem_cons hi, List.take_append_drop]
    rw [he] at e
    rw [List.append_assoc]
    exact e
  · rw [fanC_upd, List.set_eq_take_append_cons_drop, if_pos hi]
    simp
theorem fanC_congr {f g : Nat → Nat} (h : ∀ i, i < 256 → f i = g i) : fanC f = fanC g := by
  unfold fanC
  exact List.map_congr_left fun i hi => by rw [h i (List.mem_range.1 hi)]
end Go.Fw
namespace Go.Pl
open Go.Fw
def firstB (d : Dig) : Nat := (d.1.getD 0 0).toNat
theorem firstB_lt (d : Dig) : firstB d < 256 := UInt8.toNat_lt _
theorem firstB_at (d : Dig) : d.1[0]? = some (d.1.getD 0 0) := by
  have h : 0 < d.1.length := by rw [d.2]; decide
  rw [List.getElem?_eq_getElem h, List.getD_eq_getElem?_getD, List.getElem?_eq_getElem h]; rfl
/-- How many have this first byte; how many have one that is not above it. -/
def eqs (l : List Dig) (i : Nat) : Nat := l.countP fun d => decide (firstB d = i)
def les (l : List Dig) (i : Nat) : Nat := l.countP fun d => decide (firstB d ≤ i)
theorem les_zero (l : List Dig) : les l 0 = eqs l 0 := by
  unfold les eqs
  exact List.countP_congr fun d _ => by simp
theorem les_succ (i : Nat) : ∀ l : List Dig, les l (i + 1) = les l i + eqs l (i + 1)
  | [] => rfl
  | d :: l => by
    have ih := les_succ i l
    unfold les eqs at ih ⊢
    rw [List.countP_cons, List.countP_cons, List.countP_cons, ih]
    by_cases h1 : firstB d ≤ i
    · rw [show decide (firstB d ≤ i + 1) = true from decide_eq_true (by omega), show decide (firstB d ≤ i) = true from decide_eq_true h1, show decide (firstB d = i + 1) = false from decide_eq_false (by omega), if_pos rfl, if_neg (by decide)]
      omega
    · by_cases h3 : firstB d = i + 1
      · rw [show decide (firstB d ≤ i + 1) = true from decide_eq_true (by omega), show decide (firstB d ≤ i) = false from decide_eq_false h1, show decide (firstB d = i + 1) = true from decide_eq_true h3, if_pos rfl, if_neg (by decide)]
        omega
      · rw [show decide (firstB d ≤ i + 1) = false from decide_eq_false (by omega), show decide (firstB d ≤ i) = false from decide_eq_false h1, show decide (firstB d = i + 1) = false from decide_eq_false h3, if_neg (by decide)]
        omega
theorem les_len (l : List Dig) (i : Nat) : les l i ≤ l.length := List.countP_le_length
theorem eqs_len (l : List Dig) (i : Nat) : eqs l i ≤ l.length := List.countP_le_length
theorem eqs_take {l : List Dig} {x : Nat} {d : Dig} (h : l[x]? = some d) (i : Nat) : eqs (l.take (x + 1)) i = eqs (l.take x) i + if firstB d = i then 1 else 0 := by
  unfold eqs
  rw [take_succ h, List.countP_append]
  by_cases h1 : firstB d = i <;> simp [h1]
theorem les_take {l : List Dig} {x : Nat} {d : Dig} (h : l[x]? = some d) (i : Nat) : les (l.take (x + 1)) i = les (l.take x) i + if firstB d ≤ i then 1 else 0 := by
  unfold les
  rw [take_succ h, List.countP_append]
  by_cases h1 : firstB d ≤ i <;> simp [h1]
theorem less_first {a b : Dig} (h : lessB a b = true) : firstB a ≤ firstB b := by
  obtain ⟨x, hx⟩ := a
  obtain ⟨y, hy⟩ := b
  unfold lessB at h
  simp only [] at h
  cases x with
  | nil => simp at hx
  | cons p x =>
    cases y with
    | nil => simp at hy
    | cons q y =>
      simp only [Op.bytesLess, Bool.or_eq_true, decide_eq_true_eq, Bool.and_eq_true, beq_iff_eq] at h
      show p.toNat ≤ q.toNat
      rcases h with h | ⟨h, _⟩
      · exact Nat.le_of_lt (UInt8.lt_iff_toNat_lt.1 h)
      · rw [h]; exact Nat.le_refl _
theorem up_at {l : List Dig} (h : Up l) {i j : Nat} {a b : Dig} (hij : i < j) (ha : l[i]? = some a) (hb : l[j]? = some b) : lessB a b = true := by
  obtain ⟨hi, rfl⟩ := List.getElem?_eq_some_iff.1 ha
  obtain ⟨hj, rfl⟩ := List.getElem?_eq_some_iff.1 hb
  exact List.pairwise_iff_getElem.1 h i j hi hj hij
theorem up_firsts {l : List Dig} (h : Up l) {i j : Nat} {a b : Dig} (hij : i ≤ j) (ha : l[i]? = some a) (hb : l[j]? = some b) : firstB a ≤ firstB b := by
  rcases Nat.lt_or_eq_of_le hij with h1 | h1
  · exact less_first (up_at h h1 ha hb)
  · subst h1; rw [ha] at hb; injection hb with hb; rw [hb]; exact Nat.le_refl _
theorem countP_all {α : Type} {p : α → Bool} {l : List α} (h : ∀ x ∈ l, p x = true) : l.countP p = l.length := List.countP_eq_length.2 h
/-- Where a digest may stand among rising ones. -/
theorem find_range {l : List Dig} (h : Up l) {k : Nat} {d : Dig} (hk : l[k]? = some d) : k < les l (firstB d) ∧ (0 < firstB d → les l (firstB d - 1) ≤ k) := by
  have hkl := (List.getElem?_eq_some_iff.1 hk).1
  constructor
  · have e : les (l.take (k + 1)) (firstB d) = k + 1 := by
      unfold les
      rw [countP_all, List.length_take]
      · omega
      · intro x hx
        obtain ⟨i, hi⟩ := List.getElem?_of_mem hx
        have hil := (List.getElem?_eq_some_iff.1 hi).1
        rw [List.length_take] at hil
        rw [List.getElem?_take, if_pos (by omega)] at hi
        simpa using up_firsts h (by omega) hi hk
    have e2 : les l (firstB d) = les (l.take (k + 1)) (firstB d) + les (l.drop (k + 1)) (firstB d) := by
      unfold les
      rw [← List.countP_append, List.take_append_drop]
    omega
  · intro h0
    have e2 : les l (firstB d - 1) = les (l.take k) (firstB d - 1) + les (l.drop k) (firstB d - 1) := by
      unfold les
      rw [← List.countP_append, List.take_append_drop]
    have e3 : les (l.drop k) (firstB d - 1) = 0 := by
      unfold les
      rw [List.countP_eq_zero]
      intro x hx
      obtain ⟨i, hi⟩ := List.getElem?_of_mem hx
      rw [List.getElem?_drop] at hi
      have := up_firsts h (by omega) hk hi
      simp; omega
    have e4 := les_len (l.take k) (firstB d - 1)
    rw [List.length_take] at e4
    omega
end Go.Pl

/- Fans, walked: rises, the reference's Rises, Below and In. No condition. -/
namespace Go.Proofs.YtoncdfpohdchgaaDoor
open Go.RowKit Go.Fw Go.Pl Go.Sort
theorem up_snoc {l : List Dig} {x : Nat} {a d : Dig} (h : Up (l.take (x + 1))) (ha : l[x]? = some a) (hd : l[x + 1]? = some d) (hl : lessB a d = true) : Up (l.take (x + 2)) := by
  rw [show x + 2 = (x + 1) + 1 from rfl, take_succ hd]
  refine List.pairwise_append.2 ⟨h, List.pairwise_singleton _ _, fun b hb y hy => ?_⟩
  rw [List.mem_singleton] at hy
  subst hy
  obtain ⟨i, hi⟩ := List.getElem?_of_mem hb
  have hil := (List.getElem?_eq_some_iff.1 hi).1
  rw [List.length_take] at hil
  have ha' : (l.take (x + 1))[x]? = some a := by rw [List.getElem?_take, if_pos (by omega), ha]
  rcases Nat.lt_or_ge i x with h1 | h1
  · exact less_trans (up_at h h1 hi ha') hl
  · have : i = x := by omega
    subst this
    rw [hi] at ha'; injection ha' with ha'; rw [ha']; exact hl
theorem up_one (l : List Dig) : Up (l.take 1) := by
  cases l with
  | nil => exact List.Pairwise.nil
  | cons d l => exact List.pairwise_singleton _ _

theorem rises_any (u : Value) (l : List Dig) (w : World) (hl : Sl w digC 32 u l) : Calls Tryd.prog 35 #[u] w (Ret fun r w' => r = .bool (decide (Up l)) ∧ Ext w w') := by
  obtain ⟨A, m, c, rfl, hm, hmc, hcm, hux⟩ := id hl
  unfold maxLen at hcm
  refine calls_of_CW 25 [2] [(0, .slice A m c)] Tryd.func35 rfl rfl rfl (by simp) args1 ?_
  have hE : Ext w w := Chg.refl
  refine CW.seq fun K1 hK1 => ?_
  refine CW.region ?_   -- region 0
  refine WL.val (Y.assign rfl) (by decide) ?_   -- t2 := assign c(false)
  refine WL.nil ?_
  refine hK1 _ _ ?_; try clear hK1 K1
  refine CW.seq fun K2 hK2 => ?_
  refine CW.seq fun K3 hK3 => ?_
  refine CW.region ?_   -- region 1
  refine WL.val (Y.move rfl) (by decide) ?_   -- t4 := move t0
  refine WL.val (Y.len_slice Tryd.underlying29 rfl) (by decide) ?_   -- t5 := call len(t4) : 29
  refine WL.val (Y.move rfl) (by decide) ?_   -- t6 := move c(0:i64)
  refine WL.nil ?_
  refine hK3 _ _ ?_; try clear hK3 K3
  refine CW.block ?_   -- block 0
  refine CW.loop (X := Nat) (fun x => [(0, .slice A m c), (5, .int .i64 (m : Int)), (6, .int .i64 (x : Int))]) (fun x w0 => x ≤ l.length ∧ Up (l.take x) ∧ Ext w w0) (fun x => l.length - x) 0 (by repeat (first | exact Fr.le.nil | refine Fr.le.cons rfl ?_)) ⟨Nat.zero_le _, by rw [List.take_zero]; exact List.Pairwise.nil, hE⟩ ?_
  intro x w1 hl1
  obtain ⟨hx, hup, hE⟩ := hl1
  refine CW.seq fun K4 hK4 => ?_
  refine CW.region ?_   -- region 2
  refine WL.val (Y.lss rfl rfl) (by decide) ?_   -- t7 := binOp lss 3 t6 t5 3
  refine WL.nil ?_
  refine hK4 _ _ ?_; try clear hK4 K4
  refine CW.seq fun K5 hK5 => ?_
  first | refine CW.condD rfl (fun ht6 => ?_) (fun ht6 => ?_) | refine CW.condND rfl (fun ht6 => ?_) (fun ht6 => ?_) | refine CW.condN rfl (fun ht6 => ?_) (fun ht6 => ?_) | refine CW.cond rfl (fun ht6 => ?_) (fun ht6 => ?_)
  · -- then
    refine CW.skip ?_
    refine hK5 _ _ ?_; try clear hK5 K5
    refine CW.seq fun K7 hK7 => ?_
    refine CW.block ?_   -- block 1
    refine CW.seq fun K8 hK8 => ?_
    refine CW.region ?_   -- region 3
    refine WL.val (Y.move rfl) (by decide) ?_   -- t8 := move t6
    refine WL.val (Y.assign rfl) (by decide) ?_   -- t3 := assign t8
    refine WL.nil ?_
    refine hK8 _ _ ?_; try clear hK8 K8
    obtain ⟨d, hd⟩ : ∃ d, l[x]? = some d := ⟨_, List.getElem?_eq_getElem (by omega)⟩
    obtain ⟨a, rfl, hmd⟩ := (hl.ext hE).at hd
    obtain ⟨e, he⟩ : ∃ e : Dig, 0 < x → l[x - 1]? = some e := by
      rcases Nat.eq_zero_or_pos x with h | h
      · exact ⟨d, fun h2 => by omega⟩
      · exact ⟨l[x - 1]'(by omega), fun _ => List.getElem?_eq_getElem _⟩
    have hme : 0 < x → Mem w1 (a.add ((x - 1) * 32)) (digC e) := fun h => by
      obtain ⟨a2, h2, hm2⟩ := (hl.ext hE).at (he h)
      injection h2 with h2
      rw [h2]; exact hm2
    refine CW.seq_testE 23 ((0 : Int) < (x : Int) ∧ ¬ lessB e d = true) ?_ ?_
    · refine CW.quiet (fun wq => Ext w1 wq) (by kernel_rfl) (by kernel_rfl) Chg.drew ?_
      refine QL.val (fun wq hq => Y.move rfl) (by decide) ?_   -- t9 := move t3
      refine QL.val (fun wq hq => Y.gtr rfl rfl) (by decide) ?_   -- t10 := binOp gtr 3 t9 c(0:i64) 3
      refine QL.val (fun wq hq => Y.move rfl) (by decide) ?_   -- t11 := move t10
      first | refine QL.casesD (d := 11) rfl (fun hg11 => ?_) (fun hg11 => ?_) | refine QL.casesND (d := 11) rfl (fun hg11 => ?_) (fun hg11 => ?_) | refine QL.cases (d := 11) rfl (fun hg11 => ?_) (fun hg11 => ?_)
      · -- t11 = T
        refine QL.gval rfl rfl (fun wq hq => Y.move rfl) (by decide) ?_   -- t12 := move t0 [if 2=true]
        refine QL.gval rfl rfl (fun wq hq => Y.move rfl) (by decide) ?_   -- t13 := move t3 [if 2=true]
        refine QL.gval rfl rfl (fun wq hq => Y.sub rfl rfl ⟨by omega, by omega⟩) (by decide) ?_   -- t14
        rw [show ((x : Int) - 1) = ((x - 1 : Nat) : Int) from by omega]
        refine QL.gval rfl rfl (fun wq hq => Y.indexAddrN Tryd.underlying29 rfl rfl sz0_apiDigest (by omega)) (by decide) ?_   -- t15 := indexAddr 29 t12 t14 [if 2=true]
        refine QL.gval rfl rfl (fun wq hq => Y.load Tryd.underlying31 rfl ((hme (by omega)).ext hq) (sz_apiDigest _) rfl) (by decide) ?_   -- t16 := load 31 t15 [if 2=true]
        refine QL.gval rfl rfl (fun wq hq => Y.move rfl) (by decide) ?_   -- t17 := move t0 [if 2=true]
        refine QL.gval rfl rfl (fun wq hq => Y.move rfl) (by decide) ?_   -- t18 := move t3 [if 2=true]
        refine QL.gval rfl rfl (fun wq hq => Y.indexAddrN Tryd.underlying29 rfl rfl sz0_apiDigest (by omega)) (by decide) ?_   -- t19 := indexAddr 29 t17 t18 [if 2=true]
        refine QL.gval rfl rfl (fun wq hq => Y.load Tryd.underlying31 rfl (hmd.ext hq) (sz_apiDigest _) rfl) (by decide) ?_   -- t20 := load 31 t19 [if 2=true]
        refine QL.gcall rfl rfl Tryd.func49 rfl rfl rfl (fun wq hq => ret_ext (less_any _ _ _) hq) (by decide) ?_   -- t21 := call F49(t16, t20) : 31,31 [if 2=true]
        refine QL.gval rfl rfl (fun wq hq => Y.not rfl) (by decide) ?_   -- t22 := unOp not 4 t21 [if 2=true]
        refine QL.val (fun wq hq => Y.pick rfl rfl) (by decide) ?_   -- t23 := pick t11 t22 c(false)
        refine QL.nil fun wq hq => ⟨⟨_, rfl, ?_⟩, hq, (by repeat (first | exact Fr.le.refl | refine Fr.le.push rfl ?_))⟩
        first | (simp only [*, Int.natCast_inj, Bool.not_eq_true', decide_eq_false_iff_not, decide_eq_true_eq, not_true_eq_false, not_false_eq_true, true_and, false_and, and_true, and_false, false_or, or_false, true_or, or_true, iff_true, true_iff, iff_false, false_iff]; done) | (simp_all; done) | (refine congrArg Value.bool (Bool.eq_iff_iff.2 ?_); simp_all; done) | (simp_all; omega)
      · -- t11 = F
        refine QL.goff rfl rfl (by decide) ?_   -- t12 := move t0 [if 2=true]
        refine QL.goff rfl rfl (by decide) ?_   -- t13 := move t3 [if 2=true]
        refine QL.goff rfl rfl (by decide) ?_   -- t14 := binOp sub 3 t13 c(1:i64) 3 [if 2=true]
        refine QL.goff rfl rfl (by decide) ?_   -- t15 := indexAddr 29 t12 t14 [if 2=true]
        refine QL.goff rfl rfl (by decide) ?_   -- t16 := load 31 t15 [if 2=true]
        refine QL.goff rfl rfl (by decide) ?_   -- t17 := move t0 [if 2=true]
        refine QL.goff rfl rfl (by decide) ?_   -- t18 := move t3 [if 2=true]
        refine QL.goff rfl rfl (by decide) ?_   -- t19 := indexAddr 29 t17 t18 [if 2=true]
        refine QL.goff rfl rfl (by decide) ?_   -- t20 := load 31 t19 [if 2=true]
        refine QL.goff rfl rfl (by decide) ?_   -- t21 := call F49(t16, t20) : 31,31 [if 2=true]
        refine QL.goff rfl rfl (by decide) ?_   -- t22 := unOp not 4 t21 [if 2=true]
        refine QL.val (fun wq hq => Y.pick rfl rfl) (by decide) ?_   -- t23 := pick t11 t22 c(false)
        refine QL.nil fun wq hq => ⟨⟨_, rfl, ?_⟩, hq, (by repeat (first | exact Fr.le.refl | refine Fr.le.push rfl ?_))⟩
        first | (simp only [*, Int.natCast_inj, Bool.not_eq_true', decide_eq_false_iff_not, decide_eq_true_eq, not_true_eq_false, not_false_eq_true, true_and, false_and, and_true, and_false, false_or, or_false, true_or, or_true, iff_true, true_iff, iff_false, false_iff]; done) | (simp_all; done) | (refine congrArg Value.bool (Bool.eq_iff_iff.2 ?_); simp_all; done) | (simp_all; omega)
    intro w2 hx2; have hz2 := hx2.size; have hE := hE.thenExt hx2
    first | refine CW.condD rfl (fun ht9 => ?_) (fun ht9 => ?_) | refine CW.condND rfl (fun ht9 => ?_) (fun ht9 => ?_) | refine CW.condN rfl (fun ht9 => ?_) (fun ht9 => ?_) | refine CW.cond rfl (fun ht9 => ?_) (fun ht9 => ?_)
    · -- then
      refine CW.seq fun K10 hK10 => ?_
      refine CW.region ?_   -- region 5
      refine WL.val (Y.assign rfl) (by decide) ?_   -- t2 := assign c(false)
      refine WL.nil ?_
      refine hK10 _ _ ?_; try clear hK10 K10
      refine CW.ret ⟨_, rfl, ?_⟩
      exact ⟨by rw [decide_eq_false fun h => ht9.2 (up_at h (show x - 1 < x by omega) (he (by omega)) hd)], hE⟩
    -- else
    refine CW.skip ?_
    refine hK7 _ _ ?_; try clear hK7 K7
    refine CW.region ?_   -- region 6
    refine WL.val (Y.add rfl rfl ⟨by omega, by omega⟩) (by decide) ?_   -- t24 := binOp add 3 t6 c(1:i64) 3
    refine WL.val (Y.move rfl) (by decide) ?_   -- t6 := move t24
    refine WL.nil ?_
    refine ⟨x + 1, by show l.length - (x + 1) < l.length - x; omega, (by repeat (first | exact Fr.le.nil | refine Fr.le.cons rfl ?_)), by show x + 1 ≤ l.length; omega, ?_, hE⟩
    show Up (l.take (x + 1))
    rcases Nat.eq_zero_or_pos x with h | h
    · subst h; exact up_one l
    · obtain ⟨y, rfl⟩ : ∃ y, x = y + 1 := ⟨x - 1, by omega⟩
      exact up_snoc hup (he h) hd (by rcases hb : lessB e d with _ | _; exact absurd ⟨by omega, by rw [hb]; decide⟩ ht9; rfl)
  -- else
  refine CW.exit ?_   -- exit 0
  refine hK2 _ _ ?_; try clear hK2 K2
  refine CW.seq fun K11 hK11 => ?_
  refine CW.region ?_   -- region 7
  refine WL.val (Y.assign rfl) (by decide) ?_   -- t2 := assign c(true)
  refine WL.nil ?_
  refine hK11 _ _ ?_; try clear hK11 K11
  refine CW.ret ⟨_, rfl, ?_⟩
  exact ⟨by rw [decide_eq_true (by have h1 : l.take x = l := List.take_of_length_le (by omega); rw [← h1]; exact hup)], hE⟩
theorem rRises_any (u : Value) (l : List Dig) (w : World) (hl : Sl w digC 32 u l) : Calls Tryd.prog 16 #[u] w (Ret fun r w' => r = .bool (decide (Up l)) ∧ Ext w w') := by
  obtain ⟨A, m, c, rfl, hm, hmc, hcm, hux⟩ := id hl
  unfold maxLen at hcm
  refine calls_of_CW 21 [2] [(0, .slice A m c)] Tryd.func16 rfl rfl rfl (by simp) args1 ?_
  have hE : Ext w w := Chg.refl
  refine CW.seq fun K1 hK1 => ?_
  refine CW.region ?_   -- region 0
  refine WL.val (Y.assign rfl) (by decide) ?_   -- t2 := assign c(false)
  refine WL.nil ?_
  refine hK1 _ _ ?_; try clear hK1 K1
  refine CW.seq fun K2 hK2 => ?_
  refine CW.seq fun K3 hK3 => ?_
  refine CW.region ?_   -- region 1
  refine WL.val (Y.assign rfl) (by decide) ?_   -- t3 := assign c(1:i64)
  refine WL.nil ?_
  refine hK3 _ _ ?_; try clear hK3 K3
  refine CW.block ?_   -- block 0
  refine CW.loop (X := Nat) (fun x => [(0, .slice A m c), (3, .int .i64 (x : Int))]) (fun x w0 => 1 ≤ x ∧ (x ≤ l.length ∨ x = 1) ∧ Up (l.take x) ∧ Ext w w0) (fun x => l.length - x) 1 (by repeat (first | exact Fr.le.nil | refine Fr.le.cons rfl ?_)) ⟨Nat.le_refl _, .inr rfl, up_one l, hE⟩ ?_
  intro x w1 hl1
  obtain ⟨hx1, hx, hup, hE⟩ := hl1
  refine CW.seq fun K4 hK4 => ?_
  refine CW.seq fun K5 hK5 => ?_
  refine CW.region ?_   -- region 2
  refine WL.val (Y.move rfl) (by decide) ?_   -- t4 := move t3
  refine WL.val (Y.move rfl) (by decide) ?_   -- t5 := move t0
  refine WL.val (Y.len_slice Tryd.underlying29 rfl) (by decide) ?_   -- t6 := call len(t5) : 29
  refine WL.val (Y.lss rfl rfl) (by decide) ?_   -- t7 := binOp lss 3 t4 t6 3
  refine WL.nil ?_
  refine hK5 _ _ ?_; try clear hK5 K5
  first | refine CW.condD rfl (fun ht6 => ?_) (fun ht6 => ?_) | refine CW.condND rfl (fun ht6 => ?_) (fun ht6 => ?_) | refine CW.condN rfl (fun ht6 => ?_) (fun ht6 => ?_) | refine CW.cond rfl (fun ht6 => ?_) (fun ht6 => ?_)
  · -- then
    refine CW.skip ?_
    refine hK4 _ _ ?_; try clear hK4 K4
    refine CW.seq fun K7 hK7 => ?_
    refine CW.block ?_   -- block 1
    refine CW.seq fun K8 hK8 => ?_
    obtain ⟨d, hd⟩ : ∃ d, l[x]? = some d := ⟨_, List.getElem?_eq_getElem (by omega)⟩
    obtain ⟨a, rfl, hmd⟩ := (hl.ext hE).at hd
    obtain ⟨e, he⟩ : ∃ e : Dig, 0 < x → l[x - 1]? = some e := by
      rcases Nat.eq_zero_or_pos x with h | h
      · exact ⟨d, fun h2 => by omega⟩
      · exact ⟨l[x - 1]'(by omega), fun _ => List.getElem?_eq_getElem _⟩
    have hme : 0 < x → Mem w1 (a.add ((x - 1) * 32)) (digC e) := fun h => by
      obtain ⟨a2, h2, hm2⟩ := (hl.ext hE).at (he h)
      injection h2 with h2
      rw [h2]; exact hm2
    refine CW.quiet (fun wq => Ext w1 wq) (by kernel_rfl) (by kernel_rfl) Chg.drew ?_
    refine QL.val (fun wq hq => Y.move rfl) (by decide) ?_   -- t10 := move t0
    refine QL.val (fun wq hq => Y.move rfl) (by decide) ?_   -- t11 := move t3
    refine QL.val (fun wq hq => Y.sub rfl rfl ⟨by omega, by omega⟩) (by decide) ?_   -- t12
    rw [show ((x : Int) - 1) = ((x - 1 : Nat) : Int) from by omega]
    refine QL.val (fun wq hq => Y.indexAddrN Tryd.underlying29 rfl rfl sz0_apiDigest (by omega)) (by decide) ?_   -- t13 := indexAddr 29 t10 t12
    refine QL.val (fun wq hq => Y.load Tryd.underlying31 rfl ((hme (by omega)).ext hq) (sz_apiDigest _) rfl) (by decide) ?_   -- t14 := load 31 t13
    refine QL.val (fun wq hq => Y.move rfl) (by decide) ?_   -- t15 := move t0
    refine QL.val (fun wq hq => Y.move rfl) (by decide) ?_   -- t16 := move t3
    refine QL.val (fun wq hq => Y.indexAddrN Tryd.underlying29 rfl rfl sz0_apiDigest (by omega)) (by decide) ?_   -- t17 := indexAddr 29 t15 t16
    refine QL.val (fun wq hq => Y.load Tryd.underlying31 rfl (hmd.ext hq) (sz_apiDigest _) rfl) (by decide) ?_   -- t18 := load 31 t17
    refine QL.call Tryd.func34 rfl rfl rfl (fun wq hq => ret_ext (rLess_any _ _ _) hq) (by simp) ?_   -- t19 := call F34(t14, t18) : 31,31
    refine QL.val (fun wq hq => Y.not rfl) (by decide) ?_   -- t20 := unOp not 4 t19
    refine QL.nil fun w2 hx2 => ?_
    have hz2 := hx2.size
    have hE := hE.thenExt hx2
    refine hK8 _ _ ?_; try clear hK8 K8
    first | refine CW.condD rfl (fun ht9 => ?_) (fun ht9 => ?_) | refine CW.condND rfl (fun ht9 => ?_) (fun ht9 => ?_) | refine CW.condN rfl (fun ht9 => ?_) (fun ht9 => ?_) | refine CW.cond rfl (fun ht9 => ?_) (fun ht9 => ?_)
    · -- then
      refine CW.seq fun K10 hK10 => ?_
      refine CW.region ?_   -- region 5
      refine WL.val (Y.assign rfl) (by decide) ?_   -- t2 := assign c(false)
      refine WL.nil ?_
      refine hK10 _ _ ?_; try clear hK10 K10
      refine CW.ret ⟨_, rfl, ?_⟩
      exact ⟨by rw [decide_eq_false fun h => by have h2 := up_at h (show x - 1 < x by omega) (he (by omega)) hd; simp [h2] at ht9], hE⟩
    -- else
    refine CW.skip ?_
    refine hK7 _ _ ?_; try clear hK7 K7
    refine CW.region ?_   -- region 3
    refine WL.val (Y.move rfl) (by decide) ?_   -- t8 := move t3
    refine WL.val (Y.add rfl rfl ⟨by omega, by omega⟩) (by decide) ?_   -- t9 := binOp add 3 t8 c(1:i64) 3
    refine WL.val (Y.assign rfl) (by decide) ?_   -- t3 := assign t9
    refine WL.nil ?_
    refine ⟨x + 1, by show l.length - (x + 1) < l.length - x; omega, (by repeat (first | exact Fr.le.nil | refine Fr.le.cons rfl ?_)), by show 1 ≤ x + 1; omega, .inl (by show x + 1 ≤ l.length; omega), ?_, hE⟩
    show Up (l.take (x + 1))
    obtain ⟨y, rfl⟩ : ∃ y, x = y + 1 := ⟨x - 1, by omega⟩
    exact up_snoc hup (he (by omega)) hd (by simpa using ht9)
  -- else
  refine CW.exit ?_   -- exit 0
  refine hK2 _ _ ?_; try clear hK2 K2
  refine CW.seq fun K11 hK11 => ?_
  refine CW.region ?_   -- region 6
  refine WL.val (Y.assign rfl) (by decide) ?_   -- t2 := assign c(true)
  refine WL.nil ?_
  refine hK11 _ _ ?_; try clear hK11 K11
  refine CW.ret ⟨_, rfl, ?_⟩
  exact ⟨by rw [decide_eq_true (by have h1 : l.take x = l := List.take_of_length_le (by omega); rw [← h1]; exact hup)], hE⟩
theorem rBelow_any (u : Value) (l : List Dig) (b : Nat) (w : World) (hl : Sl w digC 32 u l) : Calls Tryd.prog 17 #[u, .int .i64 (b : Int)] w (Ret fun r w' => r = .int .i64 (les l b : Int) ∧ Ext w w') := by
  obtain ⟨A, m, c, rfl, hm, hmc, hcm, hux⟩ := id hl
  unfold maxLen at hcm
  refine calls_of_CW 24 [4] [(0, .slice A m c), (1, .int .i64 (b : Int))] Tryd.func17 rfl rfl rfl (by simp) args2 ?_
  have hE : Ext w w := Chg.refl
  refine CW.seq fun K1 hK1 => ?_
  refine CW.region ?_   -- region 0
  refine WL.val (Y.assign rfl) (by decide) ?_   -- t4 := assign c(0:i64)
  refine WL.nil ?_
  refine hK1 _ _ ?_; try clear hK1 K1
  refine CW.seq fun K2 hK2 => ?_
  refine CW.region ?_   -- region 1
  refine WL.val (Y.assign rfl) (by decide) ?_   -- t5 := assign c(0:i64)
  refine WL.nil ?_
  refine hK2 _ _ ?_; try clear hK2 K2
  refine CW.seq fun K3 hK3 => ?_
  refine CW.seq fun K4 hK4 => ?_
  refine CW.region ?_   -- region 2
  refine WL.val (Y.assign rfl) (by decide) ?_   -- t6 := assign c(0:i64)
  refine WL.nil ?_
  refine hK4 _ _ ?_; try clear hK4 K4
  refine CW.block ?_   -- block 0
  refine CW.loop (X := Nat) (fun x => [(0, .slice A m c), (1, .int .i64 (b : Int)), (5, .int .i64 (les (l.take x) b : Int)), (6, .int .i64 (x : Int))]) (fun x w0 => x ≤ l.length ∧ Ext w w0) (fun x => l.length - x) 0 (by repeat (first | exact Fr.le.nil | refine Fr.le.cons rfl ?_)) ⟨Nat.zero_le _, hE⟩ ?_
  intro x w1 hl1
  obtain ⟨hx, hE⟩ := hl1
  refine CW.seq fun K5 hK5 => ?_
  refine CW.seq fun K6 hK6 => ?_
  refine CW.region ?_   -- region 3
  refine WL.val (Y.move rfl) (by decide) ?_   -- t7 := move t6
  refine WL.val (Y.move rfl) (by decide) ?_   -- t8 := move t0
  refine WL.val (Y.len_slice Tryd.underlying29 rfl) (by decide) ?_   -- t9 := call len(t8) : 29
  refine WL.val (Y.lss rfl rfl) (by decide) ?_   -- t10 := binOp lss 3 t7 t9 3
  refine WL.nil ?_
  refine hK6 _ _ ?_; try clear hK6 K6
  first | refine CW.condD rfl (fun ht7 => ?_) (fun ht7 => ?_) | refine CW.condND rfl (fun ht7 => ?_) (fun ht7 => ?_) | refine CW.condN rfl (fun ht7 => ?_) (fun ht7 => ?_) | refine CW.cond rfl (fun ht7 => ?_) (fun ht7 => ?_)
  · -- then
    refine CW.skip ?_
    refine hK5 _ _ ?_; try clear hK5 K5
    obtain ⟨d, hd⟩ : ∃ d, l[x]? = some d := ⟨_, List.getElem?_eq_getElem (by omega)⟩
    obtain ⟨a, rfl, hmd⟩ := (hl.ext hE).at hd
    have hlt := les_len (l.take x) b
    rw [List.length_take] at hlt
    refine CW.seq_to (X := Unit) (fun _ => [(0, .slice (some a) m c), (1, .int .i64 (b : Int)), (5, .int .i64 (les (l.take (x + 1)) b : Int)), (6, .int .i64 (x : Int))]) (fun _ w0 => Ext w1 w0) ?_ ?_
    · skip
      refine CW.block ?_   -- block 1
      refine CW.seq fun K9 hK9 => ?_
      refine CW.region ?_   -- region 5
      refine WL.val (Y.move rfl) (by decide) ?_   -- t13 := move t0
      refine WL.val (Y.move rfl) (by decide) ?_   -- t14 := move t6
      refine WL.val (Y.indexAddrN Tryd.underlying29 rfl rfl sz0_apiDigest (by omega)) (by decide) ?_   -- t15 := indexAddr 29 t13 t14
      refine WL.val (Y.indexAddrAN (i := 0) Tryd.underlying31 rfl rfl sz0_uint8 (by decide)) (by decide) ?_   -- t16 := indexAddr 31 t15 c(0:i64)
      refine WL.val (Y.load1 Tryd.underlying5 rfl (hmd.cell 0 (bytesC_get (firstB_at d))) rfl) (by decide) ?_   -- t17 := load 5 t16
      refine WL.val (Y.conv_int Tryd.underlying5 Tryd.underlying3 rfl) (by decide) ?_   -- t18
      have hfl := UInt8.toNat_lt (d.1.getD 0 0)
      rw [wrap_i64_in ⟨by omega, by omega⟩]
      refine WL.val (Y.move rfl) (by decide) ?_   -- t19 := move t1
      refine WL.val (Y.leq rfl rfl) (by decide) ?_   -- t20 := binOp leq 3 t18 t19 3
      refine WL.nil ?_
      refine hK9 _ _ ?_; try clear hK9 K9
      first | refine CW.condD rfl (fun ht10 => ?_) (fun ht10 => ?_) | refine CW.condND rfl (fun ht10 => ?_) (fun ht10 => ?_) | refine CW.condN rfl (fun ht10 => ?_) (fun ht10 => ?_) | refine CW.cond rfl (fun ht10 => ?_) (fun ht10 => ?_)
      · -- then
        refine CW.region ?_   -- region 6
        refine WL.val (Y.move rfl) (by decide) ?_   -- t21 := move t5
        refine WL.val (Y.add rfl rfl ⟨by omega, by omega⟩) (by decide) ?_   -- t22 := binOp add 3 t21 c(1:i64) 3
        refine WL.val (Y.assign rfl) (by decide) ?_   -- t5 := assign t22
        refine WL.nil ?_
        refine ⟨(), ?_, Chg.refl⟩
        rw [les_take hd, if_pos (by have h : ((d.1.getD 0 0).toNat : Int) ≤ (b : Int) := (by assumption); show (d.1.getD 0 0).toNat ≤ b; omega)]
        exact (by repeat (first | exact Fr.le.nil | refine Fr.le.cons rfl ?_))
      -- else
      refine CW.skip ?_
      refine ⟨(), ?_, Chg.refl⟩
      rw [les_take hd, if_neg (by have h : ¬ ((d.1.getD 0 0).toNat : Int) ≤ (b : Int) := (by assumption); show ¬ (d.1.getD 0 0).toNat ≤ b; omega)]
      exact (by repeat (first | exact Fr.le.nil | refine Fr.le.cons rfl ?_))
    rintro u w2 hj2
    have hx2 : Ext w1 w2 := hj2
    have hE := hE.thenExt hx2
    refine CW.region ?_   -- region 4
    refine WL.val (Y.move rfl) (by decide) ?_   -- t11 := move t6
    refine WL.val (Y.add rfl rfl ⟨by omega, by omega⟩) (by decide) ?_   -- t12 := binOp add 3 t11 c(1:i64) 3
    refine WL.val (Y.assign rfl) (by decide) ?_   -- t6 := assign t12
    refine WL.nil ?_
    exact ⟨x + 1, by show l.length - (x + 1) < l.length - x; omega, (by repeat (first | exact Fr.le.nil | refine Fr.le.cons rfl ?_)), by show x + 1 ≤ l.length; omega, hE⟩
  -- else
  refine CW.exit ?_   -- exit 0
  refine hK3 _ _ ?_; try clear hK3 K3
  refine CW.seq fun K11 hK11 => ?_
  refine CW.region ?_   -- region 7
  refine WL.val (Y.move rfl) (by decide) ?_   -- t23 := move t5
  refine WL.val (Y.assign rfl) (by decide) ?_   -- t4 := assign t23
  refine WL.nil ?_
  refine hK11 _ _ ?_; try clear hK11 K11
  refine CW.ret ⟨_, rfl, ?_⟩
  exact ⟨by rw [List.take_of_length_le (by omega)], hE⟩
theorem pIn_any (u : Value) (l : List Dig) (k : Dig) (w : World) (hl : Sl w digC 32 u l) : Calls Tryd.prog 18 #[u, digV k] w (Ret fun r w' => r = .bool (decide (k ∈ l)) ∧ Ext w w') := by
  obtain ⟨A, m, c, rfl, hm, hmc, hcm, hux⟩ := id hl
  unfold maxLen at hcm
  refine calls_of_CW 18 [4] [(0, .slice A m c), (1, digV k)] Tryd.func18 rfl rfl rfl (by simp) args2 ?_
  have hE : Ext w w := Chg.refl
  refine CW.seq fun K1 hK1 => ?_
  refine CW.region ?_   -- region 0
  refine WL.box rfl rfl (by decide) fun g3 w1 hx1 hg3 hB3 => ?_   -- t3 := box 31 t1
  have hlt3 := hB3.lt; have hz1 := hx1.size
  have hM3 := hB3.mem; have hz1 := hx1.size; have hE := hE.thenExt hx1
  refine WL.val (Y.assign rfl) (by decide) ?_   -- t4 := assign c(false)
  refine WL.nil ?_
  refine hK1 _ _ ?_; try clear hK1 K1
  refine CW.seq fun K2 hK2 => ?_
  refine CW.seq fun K3 hK3 => ?_
  refine CW.region ?_   -- region 1
  refine WL.val (Y.assign rfl) (by decide) ?_   -- t5 := assign c(0:i64)
  refine WL.nil ?_
  refine hK3 _ _ ?_; try clear hK3 K3
  refine CW.block ?_   -- block 0
  refine CW.loop (X := Nat) (fun x => [(0, .slice A m c), (3, .pointer (some ⟨g3, 0, none⟩)), (5, .int .i64 (x : Int))]) (fun x w0 => x ≤ l.length ∧ k ∉ l.take x ∧ Ext w w0 ∧ Blk w0 g3 31 (digC k)) (fun x => l.length - x) 0 (by repeat (first | exact Fr.le.nil | refine Fr.le.cons rfl ?_)) ⟨Nat.zero_le _, by simp, hE, hB3⟩ ?_
  intro x w2 hl2
  obtain ⟨hx, hno, hE, hB3⟩ := hl2
  refine CW.seq fun K4 hK4 => ?_
  refine CW.seq fun K5 hK5 => ?_
  refine CW.region ?_   -- region 2
  refine WL.val (Y.move rfl) (by decide) ?_   -- t6 := move t5
  refine WL.val (Y.move rfl) (by decide) ?_   -- t7 := move t0
  refine WL.val (Y.len_slice Tryd.underlying29 rfl) (by decide) ?_   -- t8 := call len(t7) : 29
  refine WL.val (Y.lss rfl rfl) (by decide) ?_   -- t9 := binOp lss 3 t6 t8 3
  refine WL.nil ?_
  refine hK5 _ _ ?_; try clear hK5 K5
  first | refine CW.condD rfl (fun ht6 => ?_) (fun ht6 => ?_) | refine CW.condND rfl (fun ht6 => ?_) (fun ht6 => ?_) | refine CW.condN rfl (fun ht6 => ?_) (fun ht6 => ?_) | refine CW.cond rfl (fun ht6 => ?_) (fun ht6 => ?_)
  · -- then
    refine CW.skip ?_
    refine hK4 _ _ ?_; try clear hK4 K4
    refine CW.seq fun K7 hK7 => ?_
    refine CW.block ?_   -- block 1
    refine CW.seq fun K8 hK8 => ?_
    obtain ⟨d, hd⟩ : ∃ d, l[x]? = some d := ⟨_, List.getElem?_eq_getElem (by omega)⟩
    obtain ⟨a, rfl, hmd⟩ := (hl.ext hE).at hd
    refine CW.quiet (fun wq => Ext w2 wq) (by kernel_rfl) (by kernel_rfl) Chg.drew ?_
    refine QL.val (fun wq hq => Y.move rfl) (by decide) ?_   -- t12 := move t0
    refine QL.val (fun wq hq => Y.move rfl) (by decide) ?_   -- t13 := move t5
    refine QL.val (fun wq hq => Y.indexAddrN Tryd.underlying29 rfl rfl sz0_apiDigest (by omega)) (by decide) ?_   -- t14 := indexAddr 29 t12 t13
    refine QL.val (fun wq hq => Y.load Tryd.underlying31 rfl (hmd.ext hq) (sz_apiDigest _) rfl) (by decide) ?_   -- t15 := load 31 t14
    refine QL.val (fun wq hq => Y.load Tryd.underlying31 rfl (hB3.ext hq).mem (sz_apiDigest _) rfl) (by decide) ?_   -- t16 := load 31 t3
    refine QL.val (fun wq hq => Y.eql_apiDigest rfl rfl) (by decide) ?_   -- t17 := binOp eql 31 t15 t16 31
    refine QL.nil fun w3 hx3 => ?_
    have hz3 := hx3.size
    have hE := hE.thenExt hx3
    have hB3 := hB3.ext hx3
    refine hK8 _ _ ?_; try clear hK8 K8
    first | refine CW.condD rfl (fun ht9 => ?_) (fun ht9 => ?_) | refine CW.condND rfl (fun ht9 => ?_) (fun ht9 => ?_) | refine CW.condN rfl (fun ht9 => ?_) (fun ht9 => ?_) | refine CW.cond rfl (fun ht9 => ?_) (fun ht9 => ?_)
    · -- then
      refine CW.seq fun K10 hK10 => ?_
      refine CW.region ?_   -- region 5
      refine WL.val (Y.assign rfl) (by decide) ?_   -- t4 := assign c(true)
      refine WL.nil ?_
      refine hK10 _ _ ?_; try clear hK10 K10
      refine CW.ret ⟨_, rfl, ?_⟩
      have hkl : k ∈ l := by
        have h : d = k := by assumption
        rw [← h]
        exact List.mem_of_getElem? hd
      exact ⟨by rw [decide_eq_true hkl], hE⟩
    -- else
    refine CW.skip ?_
    refine hK7 _ _ ?_; try clear hK7 K7
    refine CW.region ?_   -- region 3
    refine WL.val (Y.move rfl) (by decide) ?_   -- t10 := move t5
    refine WL.val (Y.add rfl rfl ⟨by omega, by omega⟩) (by decide) ?_   -- t11 := binOp add 3 t10 c(1:i64) 3
    refine WL.val (Y.assign rfl) (by decide) ?_   -- t5 := assign t11
    refine WL.nil ?_
    refine ⟨x + 1, by show l.length - (x + 1) < l.length - x; omega, (by repeat (first | exact Fr.le.nil | refine Fr.le.cons rfl ?_)), by show x + 1 ≤ l.length; omega, ?_, hE, hB3⟩
    show k ∉ l.take (x + 1)
    rw [take_succ hd, List.mem_append, List.mem_singleton]
    have hne : ¬ d = k := by assumption
    rintro (h | h)
    · exact hno h
    · exact hne h.symm
  -- else
  refine CW.exit ?_   -- exit 0
  refine hK2 _ _ ?_; try clear hK2 K2
  refine CW.seq fun K11 hK11 => ?_
  refine CW.region ?_   -- region 6
  refine WL.val (Y.assign rfl) (by decide) ?_   -- t4 := assign c(false)
  refine WL.nil ?_
  refine hK11 _ _ ?_; try clear hK11 K11
  refine CW.ret ⟨_, rfl, ?_⟩
  exact ⟨by rw [decide_eq_false (by have h1 : l.take x = l := List.take_of_length_le (by omega); rw [← h1]; exact hno)], hE⟩
end Go.Proofs.YtoncdfpohdchgaaDoor

/- Fans, walked: Fan and Find. No condition. -/
namespace Go.Proofs.YtoncdfpohdchgaaDoor
open Go.RowKit Go.Fw Go.Pl Go.Sort
abbrev TFn : TypeId := 38
abbrev fanV (f : Nat → Nat) : Value := .agg (fanC f).toArray
theorem sz_256int (f : Nat → Nat) : (Tryd.prog.info? TFn).map (·.size) = some (fanC f).length := by
  rw [fanC_length]; kernel_rfl
theorem info_fan : ∃ i : TypeInfo, Tryd.prog.info? TFn = some i ∧ i.zero = some (fanV fun _ => 0) ∧ i.size = 256 := by
  have h : (Tryd.prog.info? TFn).map (fun i => (i.zero, i.size)) = some (some (fanV fun _ => 0), 256) := by kernel_rfl
  obtain ⟨i, hi, h⟩ := Option.map_eq_some_iff.1 h
  obtain ⟨h1, h2⟩ := Prod.mk.inj h
  exact ⟨i, hi, h1, h2⟩
theorem one_fanC {f : Nat → Nat} : ∀ u ∈ fanC f, u.oneCell' = true := by
  intro u hu
  obtain ⟨i, _, rfl⟩ := List.mem_map.1 hu
  rfl
set_option maxRecDepth 100000 in
theorem as_256int {n : NN} {Φ : Exit → Fr → World → Prop} {fr : Fr} {w : World} {ops : Array Oper} {rest : List Oper} {d : Nat} {x : Operand} {ty ty' : TypeId} {pos pos' : String} {aft aft' : Array Edge} {f : Nat → Nat}
    (hx : ev fr x = some (fanV f)) (hxd : x ≠ .tmp d) (hd : d < n.1)
    (h : ∀ g w', Ext w w' → w.heap.size ≤ g → Blk w' g TFn (fanC f) → WL Tryd.prog ops n Φ rest ((d, .pointer (some ⟨g, 0, none⟩)) :: fr) w') :
    WL Tryd.prog ops n Φ (⟨some d, .alloc TFn, ty, pos, aft, none⟩ :: ⟨none, .store TFn (.tmp d) x, ty', pos', aft', none⟩ :: rest) fr w := by
  obtain ⟨i, hi, hz, hs⟩ := info_fan
  exact WL.allocStore (zs := fanC fun _ => 0) (cs := fanC f) hi hz rfl (by rw [hs, fanC_length]) (by rw [fanC_length, fanC_length]) hx hxd rfl one_fanC hd h
/-- The fan while it is summed up. -/
def mix (l : List Dig) (i : Nat) : Nat → Nat := fun j => if j < i then les l j else eqs l j
theorem mix_one (l : List Dig) : fanC (mix l 1) = fanC (eqs l) := fanC_congr fun j _ => by
  unfold mix
  split
  · rename_i h
    have : j = 0 := by omega
    subst this; exact les_zero l
  · rfl
theorem mix_end (l : List Dig) : fanC (mix l 256) = fanC (les l) := fanC_congr fun j hj => by rw [mix, if_pos hj]
theorem mix_step (l : List Dig) {i : Nat} (h : 1 ≤ i) : upd (mix l i) i (mix l i i + mix l i (i - 1)) = mix l (i + 1) := by
  funext j
  obtain ⟨k, rfl⟩ : ∃ k, i = k + 1 := ⟨i - 1, by omega⟩
  unfold upd mix
  by_cases hj : j = k + 1
  · subst hj
    rw [if_pos rfl, if_neg (by omega), if_pos (by omega), if_pos (by omega), Nat.add_sub_cancel, les_succ]; omega
  · rw [if_neg hj]
    by_cases h2 : j < k + 1
    · rw [if_pos h2, if_pos (by omega)]
    · rw [if_neg h2, if_neg (by omega)]
theorem mix_sum (l : List Dig) {i : Nat} (h : 1 ≤ i) : mix l i i + mix l i (i - 1) ≤ l.length := by
  have h1 := congrFun (mix_step l h) i
  rw [upd, if_pos rfl] at h1
  rw [h1, mix, if_pos (by omega)]
  exact les_len _ _
theorem eqs_upd {l : List Dig} {x : Nat} {d : Dig} (h : l[x]? = some d) : eqs (l.take (x + 1)) = upd (eqs (l.take x)) (firstB d) (eqs (l.take x) (firstB d) + 1) := by
  funext j
  unfold upd
  rw [eqs_take h]
  by_cases hj : j = firstB d
  · rw [if_pos hj.symm, if_pos hj, hj]
  · rw [if_neg (fun h => hj h.symm), if_neg hj]; rfl
/-- What Fan answers. -/
def fanF (l : List Dig) : Nat → Nat := if Up l then les l else fun _ => 0
def fanE (l : List Dig) : Int := if Up l then 0 else 7
theorem u8_pred {k : Dig} (h : 0 < firstB k) : IntKind.u8.wrap (((k.1.getD 0 0).toNat : Int) - 1) = ((firstB k - 1 : Nat) : Int) := by
  have h1 : ((k.1.getD 0 0).toNat : Int) - 1 = ((firstB k - 1 : Nat) : Int) := by
    show ((firstB k : Nat) : Int) - 1 = _
    omega
  rw [h1, wrap8, Nat.mod_eq_of_lt (by have := firstB_lt k; omega)]
def fromN (l : List Dig) (k : Dig) : Nat := if 0 < firstB k then les l (firstB k - 1) else 0
theorem fromN_len (l : List Dig) (k : Dig) : fromN l k ≤ l.length := by
  unfold fromN
  split
  · exact les_len _ _
  · exact Nat.zero_le _

set_option maxRecDepth 20000 in
theorem fan_any (u : Value) (l : List Dig) (w : World) (hl : Sl w digC 32 u l) : Calls Tryd.prog 14 #[u] w (Ret fun r w' => r = .tuple #[fanV (fanF l), .int .i64 (fanE l)] ∧ Ext w w') := by
  obtain ⟨A, m, c, rfl, hm, hmc, hcm, hux⟩ := id hl
  unfold maxLen at hcm
  obtain ⟨ifn, hif, hzf, _⟩ := info_fan
  refine calls_of_CWct 39 2 256 [3] [(0, .slice A m c)] Tryd.func14 rfl rfl rfl Tryd.underlying38 rfl (by kernel_rfl) (by simp) args1 ?_
  have hE : Ext w w := Chg.refl
  refine CW.seq fun K1 hK1 => ?_
  refine CW.region ?_   -- region 0
  refine WL.alloc (hif) (hzf) rfl (by decide) fun g2 w1 hx1 hg2 hB2 => ?_   -- t2 := alloc 38
  have hlt2 := hB2.lt; have hz1 := hx1.size
  have hM2 := hB2.mem; have hz1 := hx1.size; have hE := hE.thenExt hx1
  refine WL.val (Y.assign rfl) (by decide) ?_   -- t3 := assign c(0:i64)
  refine WL.nil ?_
  refine hK1 _ _ ?_; try clear hK1 K1
  refine CW.seq fun K2 hK2 => ?_
  refine CW.region ?_   -- region 1
  refine WL.alloc (hif) (hzf) rfl (by decide) fun g4 w2 hx2 hg4 hB4 => ?_   -- t4 := alloc 38
  have hlt4 := hB4.lt; have hz2 := hx2.size
  have hM4 := hB4.mem; have hz2 := hx2.size; have hE := hE.thenExt hx2; have hB2 := hB2.ext hx2
  refine WL.nil ?_
  refine hK2 _ _ ?_; try clear hK2 K2
  refine CW.seq fun K3 hK3 => ?_
  refine CW.seq fun K4 hK4 => ?_
  refine CW.region ?_   -- region 2
  refine WL.val (Y.move rfl) (by decide) ?_   -- t8 := move t0
  refine WL.call Tryd.func35 rfl rfl rfl (rises_any _ l _ (hl.ext hE)) (by simp) ?_; rintro v9 w3 hR3   -- t9 := call F35(t8) : 29
  obtain ⟨rfl, hx3⟩ := hR3
  have hz3 := hx3.size
  have hE := hE.thenExt hx3
  have hB2 := hB2.ext hx3
  have hB4 := hB4.ext hx3
  refine WL.val (Y.not rfl) (by decide) ?_   -- t10 := unOp not 4 t9
  refine WL.nil ?_
  refine hK4 _ _ ?_; try clear hK4 K4
  first | refine CW.condD rfl (fun ht5 => ?_) (fun ht5 => ?_) | refine CW.condND rfl (fun ht5 => ?_) (fun ht5 => ?_) | refine CW.condN rfl (fun ht5 => ?_) (fun ht5 => ?_) | refine CW.cond rfl (fun ht5 => ?_) (fun ht5 => ?_)
  · -- then
    refine CW.seq fun K6 hK6 => ?_
    refine CW.region ?_   -- region 3
    refine WL.val (Y.load Tryd.underlying38 rfl hB4.mem (sz_256int _) rfl) (by decide) ?_   -- t11 := load 38 t4
    refine WL.store (g := g2) (pre := []) (old := fanC (fun _ => 0)) (post := []) (new := fanC (fun _ => 0)) rfl rfl rfl rfl (sz_256int _) (by simpa using hB2) rfl (one_fanC) (fun w4 hc4 hB4_ => ?_)   -- _ := store 38 t2 t11
    have hz4 := hc4.size; have hE := hE.step hc4 (fun k h => by omega); have hB4 := hB4
    have hB2 : Blk w4 g2 TFn (fanC fun _ => 0) := by simpa using hB4_
    refine WL.val (Y.assign rfl) (by decide) ?_   -- t3 := assign c(7:i64)
    refine WL.nil ?_
    refine hK6 _ _ ?_; try clear hK6 K6
    refine CW.ret ?_
    have hnu : ¬ Up l := by assumption
    exact ⟨_, _, _, rfl, hB2.mem, fanC_length _, rfl, by rw [fanF, fanE, if_neg hnu, if_neg hnu], hE⟩
  -- else
  refine CW.skip ?_
  refine hK3 _ _ ?_; try clear hK3 K3
  refine CW.seq fun K7 hK7 => ?_
  refine CW.seq fun K8 hK8 => ?_
  refine CW.region ?_   -- region 4
  refine WL.val (Y.move rfl) (by decide) ?_   -- t12 := move t0
  refine WL.val (Y.len_slice Tryd.underlying29 rfl) (by decide) ?_   -- t13 := call len(t12) : 29
  refine WL.val (Y.move rfl) (by decide) ?_   -- t14 := move c(0:i64)
  refine WL.nil ?_
  refine hK8 _ _ ?_; try clear hK8 K8
  refine CW.block ?_   -- block 0
  refine CW.loop (X := Nat) (fun x => [(0, .slice A m c), (2, .pointer (some ⟨g2, 0, none⟩)), (4, .pointer (some ⟨g4, 0, none⟩)), (12, .slice A m c), (13, .int .i64 (m : Int)), (14, .int .i64 (x : Int))]) (fun x w0 => x ≤ l.length ∧ Ext w w0 ∧ Blk w0 g2 TFn (fanC fun _ => 0) ∧ Blk w0 g4 TFn (fanC (eqs (l.take x)))) (fun x => l.length - x) 0 (by repeat (first | exact Fr.le.nil | refine Fr.le.cons rfl ?_)) ⟨Nat.zero_le _, hE, hB2, by rw [List.take_zero]; exact hB4⟩ ?_
  intro x w5 hl5
  obtain ⟨hx, hE, hB2, hB4⟩ := hl5
  have hg4l := hB4.lt
  have hg2l := hB2.lt
  refine CW.seq fun K9 hK9 => ?_
  refine CW.region ?_   -- region 5
  refine WL.val (Y.lss rfl rfl) (by decide) ?_   -- t15 := binOp lss 3 t14 t13 3
  refine WL.nil ?_
  refine hK9 _ _ ?_; try clear hK9 K9
  refine CW.seq fun K10 hK10 => ?_
  first | refine CW.condD rfl (fun ht11 => ?_) (fun ht11 => ?_) | refine CW.condND rfl (fun ht11 => ?_) (fun ht11 => ?_) | refine CW.condN rfl (fun ht11 => ?_) (fun ht11 => ?_) | refine CW.cond rfl (fun ht11 => ?_) (fun ht11 => ?_)
  · -- then
    refine CW.skip ?_
    refine hK10 _ _ ?_; try clear hK10 K10
    refine CW.seq fun K12 hK12 => ?_
    obtain ⟨d, hd⟩ : ∃ d, l[x]? = some d := ⟨_, List.getElem?_eq_getElem (by omega)⟩
    obtain ⟨a, rfl, hmd⟩ := (hl.ext hE).at hd
    have hel := eqs_len (l.take x) (firstB d)
    rw [List.length_take] at hel
    refine CW.block ?_   -- block 1
    refine CW.seq fun K13 hK13 => ?_
    refine CW.region ?_   -- region 6
    refine WL.val (Y.indexAddrN Tryd.underlying29 rfl rfl sz0_apiDigest (by omega)) (by decide) ?_   -- t16 := indexAddr 29 t12 t14
    refine WL.val (Y.load Tryd.underlying31 rfl hmd (sz_apiDigest _) rfl) (by decide) ?_   -- t17 := load 31 t16
    refine as_apiDigest rfl (by simp) (by decide) fun g6 w6 hx6 hg6 hB6 => ?_   -- alloc 31; store 31 t6 t17
    have hlt6 := hB6.lt; have hz6 := hx6.size
    have hM6 := hB6.mem; have hz6 := hx6.size; have hE := hE.thenExt hx6; have hB2 := hB2.ext hx6; have hB4 := hB4.ext hx6
    refine WL.nil ?_
    refine hK13 _ _ ?_; try clear hK13 K13
    refine CW.region ?_   -- region 7
    refine WL.val (Y.indexAddrAN (i := 0) Tryd.underlying31 rfl rfl sz0_uint8 (by decide)) (by decide) ?_   -- t18 := indexAddr 31 t6 c(0:i64)
    refine WL.val (Y.load1 Tryd.underlying5 rfl (hB6.mem.cell 0 (bytesC_get (firstB_at d))) rfl) (by decide) ?_   -- t19 := load 5 t18
    refine WL.val (Y.indexAddrAN Tryd.underlying38 rfl rfl sz0_int (firstB_lt d)) (by decide) ?_   -- t20 := indexAddr 38 t4 t19
    refine WL.val (Y.load1 Tryd.underlying3 rfl (by rw [Nat.mul_one]; exact hB4.mem.cell (firstB d) (fanC_get _ (firstB_lt d))) rfl) (by decide) ?_   -- t21 := load 3 t20
    refine WL.val (Y.add rfl rfl ⟨by omega, by omega⟩) (by decide) ?_   -- t22 := binOp add 3 t21 c(1:i64) 3
    refine WL.val (Y.indexAddrAN Tryd.underlying38 rfl rfl sz0_int (firstB_lt d)) (by decide) ?_   -- t23 := indexAddr 38 t4 t19
    refine WL.store (g := g4) (pre := (fanC (eqs (l.take x))).take (firstB d)) (old := [.int .i64 (((eqs (l.take x)) (firstB d) : Nat) : Int)]) (post := (fanC (eqs (l.take x))).drop (firstB d + 1)) (new := [.int .i64 ((eqs (l.take x) (firstB d) + 1 : Nat) : Int)]) rfl (by rw [Nat.mul_one, add_zero', List.length_take, fanC_length, Nat.min_eq_left (by have := firstB_lt d; omega)]; try rfl) rfl rfl (by kernel_rfl) (by rw [← (fan_set _ 0 (firstB_lt d)).1]; exact hB4) (by first | rfl | (simp [digC_length, opC_length]; done) | (simp only [digC_length, opC_length]; omega)) (one1 rfl) (fun w7 hc7 hB7_ => ?_)   -- _ := store 3 t23 t22
    have hz7 := hc7.size; have hE := hE.step hc7 (fun k h => by omega); have hB2 := hB2; have hB6 := hB6.chg hc7 (fun h => by omega)
    have hB4 : Blk w7 g4 TFn (fanC (eqs (l.take (x + 1)))) := by rw [← (fan_set _ _ (firstB_lt d)).2] at hB7_; rw [eqs_upd hd]; exact hB7_
    have hB2 := hB2.chg hc7 (fun h => by have h : g2 = g4 := h; omega)
    refine WL.nil ?_
    refine hK12 _ _ ?_; try clear hK12 K12
    refine CW.region ?_   -- region 8
    refine WL.val (Y.add rfl rfl ⟨by omega, by omega⟩) (by decide) ?_   -- t24 := binOp add 3 t14 c(1:i64) 3
    refine WL.val (Y.move rfl) (by decide) ?_   -- t14 := move t24
    refine WL.nil ?_
    exact ⟨x + 1, by show l.length - (x + 1) < l.length - x; omega, (by repeat (first | exact Fr.le.nil | refine Fr.le.cons rfl ?_)), by show x + 1 ≤ l.length; omega, hE, hB2, hB4⟩
  -- else
  have htk : l.take x = l := List.take_of_length_le (by omega)
  rw [htk, ← mix_one] at hB4
  refine CW.exit ?_   -- exit 0
  refine hK7 _ _ ?_; try clear hK7 K7
  refine CW.seq fun K14 hK14 => ?_
  refine CW.seq fun K15 hK15 => ?_
  refine CW.region ?_   -- region 9
  refine WL.val (Y.assign rfl) (by decide) ?_   -- t7 := assign c(1:i64)
  refine WL.nil ?_
  refine hK15 _ _ ?_; try clear hK15 K15
  refine CW.block ?_   -- block 2
  refine CW.loop (X := Nat) (fun x => [(2, .pointer (some ⟨g2, 0, none⟩)), (4, .pointer (some ⟨g4, 0, none⟩)), (7, .int .i64 (x : Int))]) (fun x w0 => 1 ≤ x ∧ x ≤ 256 ∧ Ext w w0 ∧ Blk w0 g2 TFn (fanC fun _ => 0) ∧ Blk w0 g4 TFn (fanC (mix l x))) (fun x => 256 - x) 1 (by repeat (first | exact Fr.le.nil | refine Fr.le.cons rfl ?_)) ⟨Nat.le_refl _, by decide, hE, hB2, hB4⟩ ?_
  intro x w8 hl8
  rename Nat => i
  obtain ⟨hi1, hi2, hE, hB2, hB4⟩ := hl8
  have hb1 : mix l i i ≤ l.length := by unfold mix; split; exact les_len _ _; exact eqs_len _ _
  have hb2 := mix_sum l hi1
  have hg4l := hB4.lt
  have hg2l := hB2.lt
  refine CW.seq fun K16 hK16 => ?_
  refine CW.seq fun K17 hK17 => ?_
  refine CW.region ?_   -- region 10
  refine WL.val (Y.move rfl) (by decide) ?_   -- t25 := move t7
  refine WL.val (Y.lss rfl rfl) (by decide) ?_   -- t26 := binOp lss 3 t25 c(256:i64) 3
  refine WL.nil ?_
  refine hK17 _ _ ?_; try clear hK17 K17
  first | refine CW.condD rfl (fun ht18 => ?_) (fun ht18 => ?_) | refine CW.condND rfl (fun ht18 => ?_) (fun ht18 => ?_) | refine CW.condN rfl (fun ht18 => ?_) (fun ht18 => ?_) | refine CW.cond rfl (fun ht18 => ?_) (fun ht18 => ?_)
  · -- then
    refine CW.skip ?_
    refine hK16 _ _ ?_; try clear hK16 K16
    refine CW.seq fun K19 hK19 => ?_
    refine CW.block ?_   -- block 3
    refine CW.held (fun wq => Chg (fun k => k = g4) w8 wq) (by kernel_rfl) 10 rfl fun w9 hx9 => ?_
    have hS : Chg (fun k => k = g4) w8 w9 := hx9.chg
    have hB4 := hB4.ext hx9
    refine RH.take 0 (fun _ _ _ _ h => h) (by kernel_rfl) hS rfl (by kernel_rfl) (by kernel_rfl) (fun wq hq => Y.move rfl) (by decide) ?_   -- t29 := move t7
    refine RH.take 1 (fun _ _ _ _ h => h) (by kernel_rfl) hS rfl (by kernel_rfl) (by kernel_rfl) (fun wq hq => Y.indexAddrAN Tryd.underlying38 rfl rfl sz0_int (by omega)) (by decide) ?_   -- t30 := indexAddr 38 t4 t29
    refine RH.take 3 (fun _ _ _ _ h => h) (by kernel_rfl) hS rfl (by kernel_rfl) (by kernel_rfl) (fun wq hq => Y.move rfl) (by decide) ?_   -- t32 := move t7
    refine RH.take 4 (fun _ _ _ _ h => h) (by kernel_rfl) hS rfl (by kernel_rfl) (by kernel_rfl) (fun wq hq => Y.sub rfl rfl ⟨by omega, by omega⟩) (by decide) ?_   -- t33
    rw [show ((i : Int) - 1) = ((i - 1 : Nat) : Int) from by omega]
    refine RH.take 5 (fun _ _ _ _ h => h) (by kernel_rfl) hS rfl (by kernel_rfl) (by kernel_rfl) (fun wq hq => Y.indexAddrAN Tryd.underlying38 rfl rfl sz0_int (by omega)) (by decide) ?_   -- t34 := indexAddr 38 t4 t33
    refine RH.two 2 6 (by kernel_rfl) ?_ ?_
    · skip
      refine RS.val rfl (Y.load1 Tryd.underlying3 rfl (by rw [Nat.mul_one]; exact hB4.mem.cell i (fanC_get _ (by omega))) rfl) (by decide) ⟨hS, ?_⟩   -- t31 := load 3 t30
      refine RH.one 6 (by kernel_rfl) ?_
      refine RS.val rfl (Y.load1 Tryd.underlying3 rfl (by rw [Nat.mul_one]; exact hB4.mem.cell (i - 1) (fanC_get _ (by omega))) rfl) (by decide) ⟨hS, ?_⟩   -- t35 := load 3 t34
      refine RH.take 7 (fun _ _ _ _ h => h) (by kernel_rfl) hS rfl (by kernel_rfl) (by kernel_rfl) (fun wq hq => Y.add rfl rfl ⟨by omega, by omega⟩) (by decide) ?_   -- t36 := binOp add 3 t31 t35 3
      refine RH.take 8 (fun _ _ _ _ h => h) (by kernel_rfl) hS rfl (by kernel_rfl) (by kernel_rfl) (fun wq hq => Y.indexAddrAN Tryd.underlying38 rfl rfl sz0_int (by omega)) (by decide) ?_   -- t37 := indexAddr 38 t4 t29
      refine RH.one 9 (by kernel_rfl) ?_
      refine RS.store rfl (g := g4) (pre := (fanC (mix l i)).take (i)) (old := [.int .i64 (((mix l i) (i) : Nat) : Int)]) (post := (fanC (mix l i)).drop (i + 1)) (new := [.int .i64 ((mix l i i + mix l i (i - 1) : Nat) : Int)]) rfl (by rw [Nat.mul_one, add_zero', List.length_take, fanC_length, Nat.min_eq_left (by have := (show i < 256 by omega); omega)]; try rfl) rfl rfl (by kernel_rfl) (by rw [← (fan_set _ 0 (show i < 256 by omega)).1]; exact hB4) rfl (one1 rfl) (fun w10 hc10 hB10_ => ?_)   -- store 3 t37 t36
      have hS := hS.trans hc10 (fun k _ h => h)
      have hB4 : Blk w10 g4 TFn (fanC (mix l (i + 1))) := by rw [← (fan_set _ _ (show i < 256 by omega)).2] at hB10_; rw [← mix_step l hi1]; exact hB10_
      refine ⟨hS, ?_⟩
      refine RH.done (by kernel_rfl) ?_
      have hzS := hS.size
      have hE := hE.step hS (fun k h => by have h : k = g4 := h; omega)
      have hB2 := hB2.chg hS (fun h => by have h : g2 = g4 := h; omega)
      refine hK19 _ _ ?_; try clear hK19 K19
      refine CW.region ?_   -- region 11
      refine WL.val (Y.move rfl) (by decide) ?_   -- t27 := move t7
      refine WL.val (Y.add rfl rfl ⟨by omega, by omega⟩) (by decide) ?_   -- t28 := binOp add 3 t27 c(1:i64) 3
      refine WL.val (Y.assign rfl) (by decide) ?_   -- t7 := assign t28
      refine WL.nil ?_
      exact ⟨i + 1, by show 256 - (i + 1) < 256 - i; omega, (by repeat (first | exact Fr.le.nil | refine Fr.le.cons rfl ?_)), by show 1 ≤ i + 1; omega, by show i + 1 ≤ 256; omega, hE, hB2, hB4⟩
    · skip
      refine RS.val rfl (Y.load1 Tryd.underlying3 rfl (by rw [Nat.mul_one]; exact hB4.mem.cell (i - 1) (fanC_get _ (by omega))) rfl) (by decide) ⟨hS, ?_⟩   -- t35 := load 3 t34
      refine RH.one 2 (by kernel_rfl) ?_
      refine RS.val rfl (Y.load1 Tryd.underlying3 rfl (by rw [Nat.mul_one]; exact hB4.mem.cell i (fanC_get _ (by omega))) rfl) (by decide) ⟨hS, ?_⟩   -- t31 := load 3 t30
      refine RH.take 7 (fun _ _ _ _ h => h) (by kernel_rfl) hS rfl (by kernel_rfl) (by kernel_rfl) (fun wq hq => Y.add rfl rfl ⟨by omega, by omega⟩) (by decide) ?_   -- t36 := binOp add 3 t31 t35 3
      refine RH.take 8 (fun _ _ _ _ h => h) (by kernel_rfl) hS rfl (by kernel_rfl) (by kernel_rfl) (fun wq hq => Y.indexAddrAN Tryd.underlying38 rfl rfl sz0_int (by omega)) (by decide) ?_   -- t37 := indexAddr 38 t4 t29
      refine RH.one 9 (by kernel_rfl) ?_
      refine RS.store rfl (g := g4) (pre := (fanC (mix l i)).take (i)) (old := [.int .i64 (((mix l i) (i) : Nat) : Int)]) (post := (fanC (mix l i)).drop (i + 1)) (new := [.int .i64 ((mix l i i + mix l i (i - 1) : Nat) : Int)]) rfl (by rw [Nat.mul_one, add_zero', List.length_take, fanC_length, Nat.min_eq_left (by have := (show i < 256 by omega); omega)]; try rfl) rfl rfl (by kernel_rfl) (by rw [← (fan_set _ 0 (show i < 256 by omega)).1]; exact hB4) rfl (one1 rfl) (fun w11 hc11 hB11_ => ?_)   -- store 3 t37 t36
      have hS := hS.trans hc11 (fun k _ h => h)
      have hB4 : Blk w11 g4 TFn (fanC (mix l (i + 1))) := by rw [← (fan_set _ _ (show i < 256 by omega)).2] at hB11_; rw [← mix_step l hi1]; exact hB11_
      refine ⟨hS, ?_⟩
      refine RH.done (by kernel_rfl) ?_
      have hzS := hS.size
      have hE := hE.step hS (fun k h => by have h : k = g4 := h; omega)
      have hB2 := hB2.chg hS (fun h => by have h : g2 = g4 := h; omega)
      refine hK19 _ _ ?_; try clear hK19 K19
      refine CW.region ?_   -- region 11
      refine WL.val (Y.move rfl) (by decide) ?_   -- t27 := move t7
      refine WL.val (Y.add rfl rfl ⟨by omega, by omega⟩) (by decide) ?_   -- t28 := binOp add 3 t27 c(1:i64) 3
      refine WL.val (Y.assign rfl) (by decide) ?_   -- t7 := assign t28
      refine WL.nil ?_
      exact ⟨i + 1, by show 256 - (i + 1) < 256 - i; omega, (by repeat (first | exact Fr.le.nil | refine Fr.le.cons rfl ?_)), by show 1 ≤ i + 1; omega, by show i + 1 ≤ 256; omega, hE, hB2, hB4⟩
  -- else
  have hi256 : i = 256 := by omega
  rw [hi256, mix_end] at hB4
  refine CW.exit ?_   -- exit 2
  refine hK14 _ _ ?_; try clear hK14 K14
  refine CW.seq fun K20 hK20 => ?_
  refine CW.region ?_   -- region 13
  refine WL.val (Y.load Tryd.underlying38 rfl hB4.mem (sz_256int _) rfl) (by decide) ?_   -- t38 := load 38 t4
  refine WL.store (g := g2) (pre := []) (old := fanC (fun _ => 0)) (post := []) (new := fanC (les l)) rfl rfl rfl rfl (sz_256int _) (by simpa using hB2) (by rw [fanC_length, fanC_length]) (one_fanC) (fun w12 hc12 hB12_ => ?_)   -- _ := store 38 t2 t38
  have hz12 := hc12.size; have hE := hE.step hc12 (fun k h => by omega); have hB4 := hB4
  have hB2 : Blk w12 g2 TFn (fanC (les l)) := by simpa using hB12_
  refine WL.val (Y.assign rfl) (by decide) ?_   -- t3 := assign c(0:i64)
  refine WL.nil ?_
  refine hK20 _ _ ?_; try clear hK20 K20
  refine CW.ret ?_
  have hnu : Up l := by simp_all
  exact ⟨_, _, _, rfl, hB2.mem, fanC_length _, rfl, by rw [fanF, fanE, if_pos hnu, if_pos hnu], hE⟩
set_option maxRecDepth 20000 in
theorem find_any (u : Value) (l : List Dig) (k : Dig) (w : World) (hl : Sl w digC 32 u l) : Calls Tryd.prog 15 #[u, digV k] w (Ret fun r w' => (∃ n : Nat, r = .tuple #[.int .i64 (n : Int), .bool (decide (Up l ∧ k ∈ l)), .int .i64 (fanE l)] ∧ (Up l ∧ k ∈ l → l[n]? = some k) ∧ (¬ (Up l ∧ k ∈ l) → n = 0)) ∧ Ext w w') := by
  obtain ⟨A, m, c, rfl, hm, hmc, hcm, hux⟩ := id hl
  unfold maxLen at hcm
  refine calls_of_CW 43 [4, 5, 6] [(0, .slice A m c), (1, digV k)] Tryd.func15 rfl rfl rfl (by simp) args2 ?_
  have hE : Ext w w := Chg.refl
  refine CW.seq fun K1 hK1 => ?_
  refine CW.region ?_   -- region 0
  refine WL.box rfl rfl (by decide) fun g3 w1 hx1 hg3 hB3 => ?_   -- t3 := box 31 t1
  have hlt3 := hB3.lt; have hz1 := hx1.size
  have hM3 := hB3.mem; have hz1 := hx1.size; have hE := hE.thenExt hx1
  refine WL.val (Y.assign rfl) (by decide) ?_   -- t4 := assign c(0:i64)
  refine WL.val (Y.assign rfl) (by decide) ?_   -- t5 := assign c(false)
  refine WL.val (Y.assign rfl) (by decide) ?_   -- t6 := assign c(0:i64)
  refine WL.nil ?_
  refine hK1 _ _ ?_; try clear hK1 K1
  refine CW.seq fun K2 hK2 => ?_
  refine CW.region ?_   -- region 1
  refine WL.val (Y.move rfl) (by decide) ?_   -- t12 := move t0
  refine WL.call Tryd.func14 rfl rfl rfl (fan_any _ l _ (hl.ext hE)) (by simp) ?_; rintro v13 w2 hR2   -- t13 := call F14(t12) : 29
  obtain ⟨rfl, hx2⟩ := hR2
  have hz2 := hx2.size
  have hE := hE.thenExt hx2
  have hB3 := hB3.ext hx2
  refine WL.val (Y.move rfl) (by decide) ?_   -- t11 := move t13
  refine WL.val (Y.extract rfl rfl) (by decide) ?_   -- t14 := extract t11 0
  refine WL.val (Y.extract rfl rfl) (by decide) ?_   -- t15 := extract t11 1
  refine as_256int rfl (by simp) (by decide) fun g7 w3 hx3 hg7 hB7 => ?_   -- alloc 38; store 38 t7 t14
  have hlt7 := hB7.lt; have hz3 := hx3.size
  have hM7 := hB7.mem; have hz3 := hx3.size; have hE := hE.thenExt hx3; have hB3 := hB3.ext hx3
  refine WL.val (Y.assign rfl) (by decide) ?_   -- t8 := assign t15
  refine WL.nil ?_
  refine hK2 _ _ ?_; try clear hK2 K2
  refine CW.seq fun K3 hK3 => ?_
  refine CW.seq fun K4 hK4 => ?_
  refine CW.region ?_   -- region 2
  refine WL.val (Y.move rfl) (by decide) ?_   -- t16 := move t8
  refine WL.val (Y.neq rfl rfl) (by decide) ?_   -- t17 := binOp neq 23 t16 c(0:i64) 23
  refine WL.nil ?_
  refine hK4 _ _ ?_; try clear hK4 K4
  first | refine CW.condD rfl (fun ht5 => ?_) (fun ht5 => ?_) | refine CW.condND rfl (fun ht5 => ?_) (fun ht5 => ?_) | refine CW.condN rfl (fun ht5 => ?_) (fun ht5 => ?_) | refine CW.cond rfl (fun ht5 => ?_) (fun ht5 => ?_)
  · -- then
    refine CW.seq fun K6 hK6 => ?_
    refine CW.region ?_   -- region 3
    refine WL.val (Y.move rfl) (by decide) ?_   -- t18 := move t8
    refine WL.val (Y.assign rfl) (by decide) ?_   -- t4 := assign c(0:i64)
    refine WL.val (Y.assign rfl) (by decide) ?_   -- t5 := assign c(false)
    refine WL.val (Y.assign rfl) (by decide) ?_   -- t6 := assign t18
    refine WL.nil ?_
    refine hK6 _ _ ?_; try clear hK6 K6
    refine CW.ret ⟨_, rfl, ?_⟩
    have hnu : ¬ Up l := fun h => ht5 (by rw [fanE, if_pos h])
    exact ⟨⟨0, by rw [decide_eq_false (fun h => hnu h.1)]; rfl, fun h => absurd h.1 hnu, fun _ => rfl⟩, hE⟩
  -- else
  refine CW.skip ?_
  refine hK3 _ _ ?_; try clear hK3 K3
  refine CW.seq fun K7 hK7 => ?_
  refine CW.region ?_   -- region 4
  refine WL.val (Y.assign rfl) (by decide) ?_   -- t9 := assign c(0:i64)
  refine WL.nil ?_
  refine hK7 _ _ ?_; try clear hK7 K7
  have hup : Up l := by
    rcases Decidable.em (Up l) with h | h
    · exact h
    · exact absurd (show ¬ fanE l = 0 by rw [fanE, if_neg h]; decide) ht5
  rw [fanF, if_pos hup] at hB7
  refine CW.seq_to (X := Unit) (fun _ => [(0, .slice A m c), (3, .pointer (some ⟨g3, 0, none⟩)), (7, .pointer (some ⟨g7, 0, none⟩)), (9, .int .i64 (fromN l k : Int))]) (fun _ w0 => Ext w3 w0) ?_ ?_
  · skip
    refine CW.seq fun K9 hK9 => ?_
    refine CW.region ?_   -- region 5
    refine WL.val (Y.indexAddrAN (i := 0) Tryd.underlying31 rfl rfl sz0_uint8 (by decide)) (by decide) ?_   -- t19 := indexAddr 31 t3 c(0:i64)
    refine WL.val (Y.load1 Tryd.underlying5 rfl (hB3.mem.cell 0 (bytesC_get (firstB_at k))) rfl) (by decide) ?_   -- t20 := load 5 t19
    refine WL.val (Y.gtr rfl rfl) (by decide) ?_   -- t21 := binOp gtr 5 t20 c(0:u8) 5
    refine WL.nil ?_
    refine hK9 _ _ ?_; try clear hK9 K9
    first | refine CW.condD rfl (fun ht10 => ?_) (fun ht10 => ?_) | refine CW.condND rfl (fun ht10 => ?_) (fun ht10 => ?_) | refine CW.condN rfl (fun ht10 => ?_) (fun ht10 => ?_) | refine CW.cond rfl (fun ht10 => ?_) (fun ht10 => ?_)
    · -- then
      refine CW.region ?_   -- region 6
      refine WL.val (Y.indexAddrAN (i := 0) Tryd.underlying31 rfl rfl sz0_uint8 (by decide)) (by decide) ?_   -- t22 := indexAddr 31 t3 c(0:i64)
      refine WL.val (Y.load1 Tryd.underlying5 rfl (hB3.mem.cell 0 (bytesC_get (firstB_at k))) rfl) (by decide) ?_   -- t23 := load 5 t22
      refine WL.val (Y.sub_k rfl rfl) (by decide) ?_   -- t24
      have h0k : 0 < firstB k := by have h : (0 : Int) < ((k.1.getD 0 0).toNat : Int) := (by assumption); show 0 < (k.1.getD 0 0).toNat; omega
      rw [u8_pred h0k]
      refine WL.val (Y.indexAddrAN Tryd.underlying38 rfl rfl sz0_int (by have := firstB_lt k; omega)) (by decide) ?_   -- t25 := indexAddr 38 t7 t24
      refine WL.val (Y.load1 Tryd.underlying3 rfl (by rw [Nat.mul_one]; exact hB7.mem.cell (firstB k - 1) (fanC_get _ (by have := firstB_lt k; omega))) rfl) (by decide) ?_   -- t26 := load 3 t25
      refine WL.val (Y.assign rfl) (by decide) ?_   -- t9 := assign t26
      refine WL.nil ?_
      refine ⟨(), ?_, Chg.refl⟩
      rw [fromN, if_pos h0k]
      exact (by repeat (first | exact Fr.le.nil | refine Fr.le.cons rfl ?_))
    -- else
    refine CW.skip ?_
    refine ⟨(), ?_, Chg.refl⟩
    rw [fromN, if_neg (by have h : ¬ (0 : Int) < ((k.1.getD 0 0).toNat : Int) := (by assumption); show ¬ 0 < (k.1.getD 0 0).toNat; omega)]
    exact (by repeat (first | exact Fr.le.nil | refine Fr.le.cons rfl ?_))
  rintro u w4 hj4
  have hx4 : Ext w3 w4 := hj4
  have hz4 := hx4.size
  have hE := hE.thenExt hx4
  have hB3 := hB3.ext hx4
  have hB7 := hB7.ext hx4
  refine CW.seq fun K11 hK11 => ?_
  refine CW.seq fun K12 hK12 => ?_
  refine CW.region ?_   -- region 7
  refine WL.val (Y.move rfl) (by decide) ?_   -- t27 := move t9
  refine WL.val (Y.assign rfl) (by decide) ?_   -- t10 := assign t27
  refine WL.nil ?_
  refine hK12 _ _ ?_; try clear hK12 K12
  refine CW.block ?_   -- block 0
  refine CW.loop (X := Nat) (fun x => [(0, .slice A m c), (3, .pointer (some ⟨g3, 0, none⟩)), (7, .pointer (some ⟨g7, 0, none⟩)), (10, .int .i64 (x : Int))]) (fun x w0 => fromN l k ≤ x ∧ x ≤ l.length ∧ (∀ t, fromN l k ≤ t → t < x → l[t]? ≠ some k) ∧ Ext w w0 ∧ Blk w0 g3 31 (digC k) ∧ Blk w0 g7 TFn (fanC (les l))) (fun x => l.length - x) (fromN l k) (by repeat (first | exact Fr.le.nil | refine Fr.le.cons rfl ?_)) ⟨Nat.le_refl _, fromN_len l k, fun t h1 h2 => absurd h2 (by show ¬ t < fromN l k; omega), hE, hB3, hB7⟩ ?_
  intro x w5 hl5
  obtain ⟨hx1, hx2, hno, hE, hB3, hB7⟩ := hl5
  refine CW.seq fun K13 hK13 => ?_
  refine CW.seq fun K14 hK14 => ?_
  refine CW.region ?_   -- region 8
  refine WL.val (Y.move rfl) (by decide) ?_   -- t28 := move t10
  refine WL.val (Y.indexAddrAN (i := 0) Tryd.underlying31 rfl rfl sz0_uint8 (by decide)) (by decide) ?_   -- t29 := indexAddr 31 t3 c(0:i64)
  refine WL.val (Y.load1 Tryd.underlying5 rfl (hB3.mem.cell 0 (bytesC_get (firstB_at k))) rfl) (by decide) ?_   -- t30 := load 5 t29
  refine WL.val (Y.indexAddrAN Tryd.underlying38 rfl rfl sz0_int (firstB_lt k)) (by decide) ?_   -- t31 := indexAddr 38 t7 t30
  refine WL.val (Y.load1 Tryd.underlying3 rfl (by rw [Nat.mul_one]; exact hB7.mem.cell (firstB k) (fanC_get _ (firstB_lt k))) rfl) (by decide) ?_   -- t32 := load 3 t31
  refine WL.val (Y.lss rfl rfl) (by decide) ?_   -- t33 := binOp lss 3 t28 t32 3
  refine WL.nil ?_
  refine hK14 _ _ ?_; try clear hK14 K14
  first | refine CW.condD rfl (fun ht15 => ?_) (fun ht15 => ?_) | refine CW.condND rfl (fun ht15 => ?_) (fun ht15 => ?_) | refine CW.condN rfl (fun ht15 => ?_) (fun ht15 => ?_) | refine CW.cond rfl (fun ht15 => ?_) (fun ht15 => ?_)
  · -- then
    refine CW.skip ?_
    refine hK13 _ _ ?_; try clear hK13 K13
    refine CW.seq fun K16 hK16 => ?_
    refine CW.block ?_   -- block 1
    refine CW.seq fun K17 hK17 => ?_
    have hxl := les_len l (firstB k)
    have hxk : x < les l (firstB k) := by omega
    obtain ⟨d, hd⟩ : ∃ d, l[x]? = some d := ⟨_, List.getElem?_eq_getElem (by omega)⟩
    obtain ⟨a, rfl, hmd⟩ := (hl.ext hE).at hd
    refine CW.quiet (fun wq => Ext w5 wq) (by kernel_rfl) (by kernel_rfl) Chg.drew ?_
    refine QL.val (fun wq hq => Y.move rfl) (by decide) ?_   -- t36 := move t0
    refine QL.val (fun wq hq => Y.move rfl) (by decide) ?_   -- t37 := move t10
    refine QL.val (fun wq hq => Y.indexAddrN Tryd.underlying29 rfl rfl sz0_apiDigest (by omega)) (by decide) ?_   -- t38 := indexAddr 29 t36 t37
    refine QL.val (fun wq hq => Y.load Tryd.underlying31 rfl (hmd.ext hq) (sz_apiDigest _) rfl) (by decide) ?_   -- t39 := load 31 t38
    refine QL.val (fun wq hq => Y.load Tryd.underlying31 rfl (hB3.ext hq).mem (sz_apiDigest _) rfl) (by decide) ?_   -- t40 := load 31 t3
    refine QL.val (fun wq hq => Y.eql_apiDigest rfl rfl) (by decide) ?_   -- t41 := binOp eql 31 t39 t40 31
    refine QL.nil fun w6 hx6 => ?_
    have hz6 := hx6.size
    have hE := hE.thenExt hx6
    have hB3 := hB3.ext hx6
    have hB7 := hB7.ext hx6
    refine hK17 _ _ ?_; try clear hK17 K17
    first | refine CW.condD rfl (fun ht18 => ?_) (fun ht18 => ?_) | refine CW.condND rfl (fun ht18 => ?_) (fun ht18 => ?_) | refine CW.condN rfl (fun ht18 => ?_) (fun ht18 => ?_) | refine CW.cond rfl (fun ht18 => ?_) (fun ht18 => ?_)
    · -- then
      refine CW.seq fun K19 hK19 => ?_
      refine CW.region ?_   -- region 11
      refine WL.val (Y.move rfl) (by decide) ?_   -- t42 := move t10
      refine WL.val (Y.assign rfl) (by decide) ?_   -- t4 := assign t42
      refine WL.val (Y.assign rfl) (by decide) ?_   -- t5 := assign c(true)
      refine WL.val (Y.assign rfl) (by decide) ?_   -- t6 := assign c(0:i64)
      refine WL.nil ?_
      refine hK19 _ _ ?_; try clear hK19 K19
      refine CW.ret ⟨_, rfl, ?_⟩
      have hdk : d = k := by assumption
      rw [hdk] at hd
      have hm9 := List.mem_of_getElem? hd
      exact ⟨⟨x, by rw [decide_eq_true (show Up l ∧ k ∈ l from ⟨hup, hm9⟩), fanE, if_pos hup], fun _ => hd, fun h => absurd ⟨hup, hm9⟩ h⟩, hE⟩
    -- else
    refine CW.skip ?_
    refine hK16 _ _ ?_; try clear hK16 K16
    refine CW.region ?_   -- region 9
    refine WL.val (Y.move rfl) (by decide) ?_   -- t34 := move t10
    refine WL.val (Y.add rfl rfl ⟨by omega, by omega⟩) (by decide) ?_   -- t35 := binOp add 3 t34 c(1:i64) 3
    refine WL.val (Y.assign rfl) (by decide) ?_   -- t10 := assign t35
    refine WL.nil ?_
    have hne : ¬ d = k := by assumption
    refine ⟨x + 1, by show l.length - (x + 1) < l.length - x; omega, (by repeat (first | exact Fr.le.nil | refine Fr.le.cons rfl ?_)), by show fromN l k ≤ x + 1; omega, by show x + 1 ≤ l.length; omega, fun t h1 h2 => ?_, hE, hB3, hB7⟩
    have h2 : t < x + 1 := h2
    rcases Nat.lt_or_eq_of_le (show t ≤ x by omega) with h | h
    · exact hno t h1 h
    · subst h; intro h3; rw [hd] at h3; injection h3 with h3; exact hne h3
  -- else
  refine CW.exit ?_   -- exit 0
  refine hK11 _ _ ?_; try clear hK11 K11
  refine CW.seq fun K20 hK20 => ?_
  refine CW.region ?_   -- region 12
  refine WL.val (Y.assign rfl) (by decide) ?_   -- t4 := assign c(0:i64)
  refine WL.val (Y.assign rfl) (by decide) ?_   -- t5 := assign c(false)
  refine WL.val (Y.assign rfl) (by decide) ?_   -- t6 := assign c(0:i64)
  refine WL.nil ?_
  refine hK20 _ _ ?_; try clear hK20 K20
  refine CW.ret ⟨_, rfl, ?_⟩
  have hge : ¬ ((x : Int) < (les l (firstB k) : Int)) := by assumption
  have hnm : ¬ (Up l ∧ k ∈ l) := by
    rintro ⟨_, hm9⟩
    obtain ⟨t, ht⟩ := List.getElem?_of_mem hm9
    obtain ⟨h1, h2⟩ := find_range hup ht
    refine hno t ?_ (by omega) ht
    unfold fromN
    split
    · exact h2 (by assumption)
    · omega
  exact ⟨⟨0, by rw [decide_eq_false hnm, fanE, if_pos hup]; rfl, fun h => absurd h hnm, fun _ => rfl⟩, hE⟩
end Go.Proofs.YtoncdfpohdchgaaDoor

/- recensionlaw12's PackFans, walked. No condition but the bounds of what is handed in. -/
namespace Go.Proofs.YtoncdfpohdchgaaDoor
open Go.RowKit Go.Fw Go.Pl Go.Sort Go
theorem eqItems_same (d : Nat) (f : Nat → Nat) (w : World) : ∀ is : List Nat, (∀ i ∈ is, i < 256) → (Op.eqItems (d + 1) 3 1 (fanC f).toArray (fanC f).toArray is).run Tryd.prog w = .ok true w
  | [], _ => by simp [Op.eqItems]
  | i :: is, h => by
    have hi := h i (List.mem_cons_self)
    have hp : (part 3 (fanC f).toArray (i * 1)).run Tryd.prog w = .ok (.int .i64 (f i : Int)) w := part_one Tryd.underlying3 rfl (by rw [Nat.mul_one]; simpa using fanC_get f hi)
    have ih := eqItems_same d f w is (fun j hj => h j (List.mem_cons_of_mem _ hj))
    simp only [Op.eqItems, Sem.run_bind, hp, Result.andThen_ok, run_equalIn_int w d 3 .i64 .i64 _ _ Tryd.underlying3]
    simpa using ih
set_option maxRecDepth 100000 in
theorem eqIn_fan (d : Nat) (f : Nat → Nat) (w : World) : (Op.equalIn (d + 2) TFn (fanV f) (fanV f)).run Tryd.prog w = .ok true w := by
  have hc : Tryd.prog.cellsOf 3 = 1 := by kernel_rfl
  have hi : ∃ i, Tryd.prog.info? 3 = some i := by
    have h : (Tryd.prog.info? 3).isSome = true := by kernel_rfl
    exact Option.isSome_iff_exists.1 h
  obtain ⟨i, hi⟩ := hi
  rw [run_equalIn_array (w := w) (d + 1) _ _ Tryd.underlying38 hi, hc]
  exact eqItems_same d f w _ fun j hj => List.mem_range.1 hj
theorem guard_fan : Tryd.prog.eqGuardType Tryd.prog.depth TFn = false := by kernel_rfl
theorem Y.eql_256int {n : NN} {fr : Fr} {w : World} {ty : TypeId} {x y : Operand} {t' : TypeId} {f : Nat → Nat} (hx : ev fr x = some (fanV f)) (hy : ev fr y = some (fanV f)) : Yw Tryd.prog n fr (.binOp .eql TFn x y t') ty w (.bool true) w :=
  Y.bin hx hy (run_eqGuard_agg w _ _ _ _ _ _ guard_fan) (by rw [run_eql_struct, eqIn_fan 9998]; rfl)
theorem build_256int (w : World) : (Instr.build TFn #[]).run Tryd.prog w = .ok (fanV fun _ => 0) w := by kernel_rfl

set_option maxRecDepth 20000 in
set_option maxHeartbeats 2000000 in
theorem packFans_any (u : Value) (l : List Dig) (k : Dig) (w : World) (hl : Sl w digC 32 u l) (hK : Mem w ⟨0, 0, none⟩ (wds keysL)) : Calls Tryd.prog 7 #[u, digV k] w (Ret fun r w' => r = .bool true ∧ Ext w w') := by
  obtain ⟨A, m, c, rfl, hm, hmc, hcm, hux⟩ := id hl
  unfold maxLen at hcm
  refine calls_of_CW 103 [4] [(0, .slice A m c), (1, digV k)] Tryd.func7 rfl rfl rfl (by simp) args2 ?_
  have hE : Ext w w := Chg.refl
  refine CW.seq fun K1 hK1 => ?_
  refine CW.region ?_   -- region 0
  refine WL.box rfl rfl (by decide) fun g3 w1 hx1 hg3 hB3 => ?_   -- t3 := box 31 t1
  have hlt3 := hB3.lt; have hz1 := hx1.size
  have hM3 := hB3.mem; have hz1 := hx1.size; have hE := hE.thenExt hx1; have hK := hK.ext hx1
  refine WL.val (Y.assign rfl) (by decide) ?_   -- t4 := assign c(false)
  refine WL.nil ?_
  refine hK1 _ _ ?_; try clear hK1 K1
  refine CW.seq fun K2 hK2 => ?_
  refine CW.region ?_   -- region 1
  refine WL.val (Y.move rfl) (by decide) ?_   -- t12 := move t0
  refine WL.call Tryd.func14 rfl rfl rfl (fan_any _ l _ (hl.ext hE)) (by simp) ?_; rintro v13 w2 hR2   -- t13 := call F14(t12) : 29
  obtain ⟨rfl, hx2⟩ := hR2
  have hz2 := hx2.size
  have hE := hE.thenExt hx2
  have hK := hK.ext hx2
  have hB3 := hB3.ext hx2
  refine WL.val (Y.move rfl) (by decide) ?_   -- t11 := move t13
  refine WL.val (Y.extract rfl rfl) (by decide) ?_   -- t14 := extract t11 0
  refine WL.val (Y.extract rfl rfl) (by decide) ?_   -- t15 := extract t11 1
  refine as_256int rfl (by simp) (by decide) fun g5 w3 hx3 hg5 hB5 => ?_   -- alloc 38; store 38 t5 t14
  have hlt5 := hB5.lt; have hz3 := hx3.size
  have hM5 := hB5.mem; have hz3 := hx3.size; have hE := hE.thenExt hx3; have hK := hK.ext hx3; have hB3 := hB3.ext hx3
  refine WL.val (Y.assign rfl) (by decide) ?_   -- t6 := assign t15
  refine WL.nil ?_
  refine hK2 _ _ ?_; try clear hK2 K2
  refine CW.seq fun K3 hK3 => ?_
  refine CW.region ?_   -- region 2
  refine WL.val (Y.move rfl) (by decide) ?_   -- t17 := move t0
  refine WL.val (Y.load Tryd.underlying31 rfl hB3.mem (sz_apiDigest _) rfl) (by decide) ?_   -- t18 := load 31 t3
  refine WL.call Tryd.func15 rfl rfl rfl (find_any _ l k _ (hl.ext hE)) (by simp) ?_; rintro v19 w4 hR4   -- t19 := call F15(t17, t18) : 29,31
  obtain ⟨⟨n, rfl, hn1, hn2⟩, hx4⟩ := hR4
  have hz4 := hx4.size
  have hE := hE.thenExt hx4
  have hK := hK.ext hx4
  have hB3 := hB3.ext hx4
  have hB5 := hB5.ext hx4
  refine WL.val (Y.move rfl) (by decide) ?_   -- t16 := move t19
  refine WL.val (Y.extract rfl rfl) (by decide) ?_   -- t20 := extract t16 0
  refine WL.val (Y.extract rfl rfl) (by decide) ?_   -- t21 := extract t16 1
  refine WL.val (Y.extract rfl rfl) (by decide) ?_   -- t22 := extract t16 2
  refine WL.val (Y.assign rfl) (by decide) ?_   -- t7 := assign t20
  refine WL.val (Y.assign rfl) (by decide) ?_   -- t8 := assign t21
  refine WL.val (Y.assign rfl) (by decide) ?_   -- t9 := assign t22
  refine WL.nil ?_
  refine hK3 _ _ ?_; try clear hK3 K3
  refine CW.seq fun K4 hK4 => ?_
  refine CW.seq fun K5 hK5 => ?_
  refine CW.region ?_   -- region 3
  refine WL.val (Y.move rfl) (by decide) ?_   -- t23 := move t0
  refine WL.call Tryd.func16 rfl rfl rfl (rRises_any _ l _ (hl.ext hE)) (by simp) ?_; rintro v24 w5 hR5   -- t24 := call F16(t23) : 29
  obtain ⟨rfl, hx5⟩ := hR5
  have hz5 := hx5.size
  have hE := hE.thenExt hx5
  have hK := hK.ext hx5
  have hB3 := hB3.ext hx5
  have hB5 := hB5.ext hx5
  refine WL.val (Y.not rfl) (by decide) ?_   -- t25 := unOp not 4 t24
  refine WL.nil ?_
  refine hK5 _ _ ?_; try clear hK5 K5
  first | refine CW.condD rfl (fun ht6 => ?_) (fun ht6 => ?_) | refine CW.condND rfl (fun ht6 => ?_) (fun ht6 => ?_) | refine CW.condN rfl (fun ht6 => ?_) (fun ht6 => ?_) | refine CW.cond rfl (fun ht6 => ?_) (fun ht6 => ?_)
  · -- then
    refine CW.seq fun K7 hK7 => ?_
    refine CW.region ?_   -- region 4
    have hnu : ¬ Up l := by assumption
    rw [fanF, if_neg hnu] at hB5
    refine WL.val (Y.load Tryd.underlying38 rfl hB5.mem (sz_256int _) rfl) (by decide) ?_   -- t26 := load 38 t5
    refine WL.val (Y.build0 (build_256int _)) (by decide) ?_   -- t27 := build 38 []
    refine WL.val (Y.eql_256int rfl rfl) (by decide) ?_   -- t28 := binOp eql 38 t26 t27 38
    refine WL.val (Y.move rfl) (by decide) ?_   -- t29 := move t28
    first | refine WL.casesD (d := 29) rfl (fun hg29 => ?_) (fun hg29 => ?_) | refine WL.casesND (d := 29) rfl (fun hg29 => ?_) (fun hg29 => ?_) | refine WL.cases (d := 29) rfl (fun hg29 => ?_) (fun hg29 => ?_)
    · -- t29 = T
      refine WL.gval rfl rfl (Y.move rfl) (by decide) ?_   -- t30 := move t6 [if 3=true]
      refine WL.gval rfl rfl (Y.eql rfl rfl) (by decide) ?_   -- t31 := binOp eql 23 t30 c(7:i64) 23 [if 3=true]
      refine WL.val (Y.pick rfl rfl) (by decide) ?_   -- t32 := pick t29 t31 c(false)
      refine WL.val (Y.move rfl) (by decide) ?_   -- t33 := move t32
      first | refine WL.casesD (d := 33) rfl (fun hg33 => ?_) (fun hg33 => ?_) | refine WL.casesND (d := 33) rfl (fun hg33 => ?_) (fun hg33 => ?_) | refine WL.cases (d := 33) rfl (fun hg33 => ?_) (fun hg33 => ?_)
      · -- t33 = T
        refine WL.gval rfl rfl (Y.move rfl) (by decide) ?_   -- t34 := move t7 [if 7=true]
        refine WL.gval rfl rfl (Y.eql rfl rfl) (by decide) ?_   -- t35 := binOp eql 3 t34 c(0:i64) 3 [if 7=true]
        refine WL.val (Y.pick rfl rfl) (by decide) ?_   -- t36 := pick t33 t35 c(false)
        refine WL.val (Y.move rfl) (by decide) ?_   -- t37 := move t36
        first | refine WL.casesD (d := 37) rfl (fun hg37 => ?_) (fun hg37 => ?_) | refine WL.casesND (d := 37) rfl (fun hg37 => ?_) (fun hg37 => ?_) | refine WL.cases (d := 37) rfl (fun hg37 => ?_) (fun hg37 => ?_)
        · -- t37 = T
          refine WL.gval rfl rfl (Y.move rfl) (by decide) ?_   -- t38 := move t8 [if 11=true]
          refine WL.gval rfl rfl (Y.not rfl) (by decide) ?_   -- t39 := unOp not 4 t38 [if 11=true]
          refine WL.val (Y.pick rfl rfl) (by decide) ?_   -- t40 := pick t37 t39 c(false)
          refine WL.val (Y.move rfl) (by decide) ?_   -- t41 := move t40
          first | refine WL.casesD (d := 41) rfl (fun hg41 => ?_) (fun hg41 => ?_) | refine WL.casesND (d := 41) rfl (fun hg41 => ?_) (fun hg41 => ?_) | refine WL.cases (d := 41) rfl (fun hg41 => ?_) (fun hg41 => ?_)
          · -- t41 = T
            refine WL.gval rfl rfl (Y.move rfl) (by decide) ?_   -- t42 := move t9 [if 15=true]
            refine WL.gval rfl rfl (Y.eql rfl rfl) (by decide) ?_   -- t43 := binOp eql 23 t42 c(7:i64) 23 [if 15=true]
            refine WL.val (Y.pick rfl rfl) (by decide) ?_   -- t44 := pick t41 t43 c(false)
            refine WL.val (Y.move rfl) (by decide) ?_   -- t45 := move t44
            first | refine WL.casesD (d := 45) rfl (fun hg45 => ?_) (fun hg45 => ?_) | refine WL.casesND (d := 45) rfl (fun hg45 => ?_) (fun hg45 => ?_) | refine WL.cases (d := 45) rfl (fun hg45 => ?_) (fun hg45 => ?_)
            · -- t45 = T
              refine WL.gcall rfl rfl Tryd.func10 rfl rfl rfl (palive_any _ hK) (by decide) ?_; rintro v46 w6 hR6   -- t46 := call F10() :  [if 19=true]
              obtain ⟨rfl, hx6⟩ := hR6
              have hz6 := hx6.size
              have hE := hE.thenExt hx6
              have hK := hK.ext hx6
              refine WL.val (Y.pick rfl rfl) (by decide) ?_   -- t47 := pick t45 t46 c(false)
              refine WL.val (Y.assign rfl) (by decide) ?_   -- t4 := assign t47
              refine WL.nil ?_
              refine hK7 _ _ ?_; try clear hK7 K7
              refine CW.ret ⟨_, rfl, ?_⟩
              exact ⟨rfl, hE⟩
            · -- t45 = F
              refine WL.goff rfl rfl (by decide) ?_   -- t46 := call F10() :  [if 19=true]
              refine WL.val (Y.pick rfl rfl) (by decide) ?_   -- t47 := pick t45 t46 c(false)
              refine WL.val (Y.assign rfl) (by decide) ?_   -- t4 := assign t47
              refine WL.nil ?_
              refine hK7 _ _ ?_; try clear hK7 K7
              refine CW.ret ⟨_, rfl, ?_⟩
              exact absurd (by rw [fanE, if_neg hnu]) hg45
          · -- t41 = F
            refine WL.goff rfl rfl (by decide) ?_   -- t42 := move t9 [if 15=true]
            refine WL.goff rfl rfl (by decide) ?_   -- t43 := binOp eql 23 t42 c(7:i64) 23 [if 15=true]
            refine WL.val (Y.pick rfl rfl) (by decide) ?_   -- t44 := pick t41 t43 c(false)
            refine WL.val (Y.move rfl) (by decide) ?_   -- t45 := move t44
            refine WL.goff rfl rfl (by decide) ?_   -- t46 := call F10() :  [if 19=true]
            refine WL.val (Y.pick rfl rfl) (by decide) ?_   -- t47 := pick t45 t46 c(false)
            refine WL.val (Y.assign rfl) (by decide) ?_   -- t4 := assign t47
            refine WL.nil ?_
            refine hK7 _ _ ?_; try clear hK7 K7
            refine CW.ret ⟨_, rfl, ?_⟩
            exact absurd (show ¬ (Up l ∧ k ∈ l) from fun h => hnu h.1) (by simpa using hg41)
        · -- t37 = F
          refine WL.goff rfl rfl (by decide) ?_   -- t38 := move t8 [if 11=true]
          refine WL.goff rfl rfl (by decide) ?_   -- t39 := unOp not 4 t38 [if 11=true]
          refine WL.val (Y.pick rfl rfl) (by decide) ?_   -- t40 := pick t37 t39 c(false)
          refine WL.val (Y.move rfl) (by decide) ?_   -- t41 := move t40
          refine WL.goff rfl rfl (by decide) ?_   -- t42 := move t9 [if 15=true]
          refine WL.goff rfl rfl (by decide) ?_   -- t43 := binOp eql 23 t42 c(7:i64) 23 [if 15=true]
          refine WL.val (Y.pick rfl rfl) (by decide) ?_   -- t44 := pick t41 t43 c(false)
          refine WL.val (Y.move rfl) (by decide) ?_   -- t45 := move t44
          refine WL.goff rfl rfl (by decide) ?_   -- t46 := call F10() :  [if 19=true]
          refine WL.val (Y.pick rfl rfl) (by decide) ?_   -- t47 := pick t45 t46 c(false)
          refine WL.val (Y.assign rfl) (by decide) ?_   -- t4 := assign t47
          refine WL.nil ?_
          refine hK7 _ _ ?_; try clear hK7 K7
          refine CW.ret ⟨_, rfl, ?_⟩
          exact absurd (by rw [hn2 (fun h => hnu h.1)]; rfl) hg37
      · -- t33 = F
        refine WL.goff rfl rfl (by decide) ?_   -- t34 := move t7 [if 7=true]
        refine WL.goff rfl rfl (by decide) ?_   -- t35 := binOp eql 3 t34 c(0:i64) 3 [if 7=true]
        refine WL.val (Y.pick rfl rfl) (by decide) ?_   -- t36 := pick t33 t35 c(false)
        refine WL.val (Y.move rfl) (by decide) ?_   -- t37 := move t36
        refine WL.goff rfl rfl (by decide) ?_   -- t38 := move t8 [if 11=true]
        refine WL.goff rfl rfl (by decide) ?_   -- t39 := unOp not 4 t38 [if 11=true]
        refine WL.val (Y.pick rfl rfl) (by decide) ?_   -- t40 := pick t37 t39 c(false)
        refine WL.val (Y.move rfl) (by decide) ?_   -- t41 := move t40
        refine WL.goff rfl rfl (by decide) ?_   -- t42 := move t9 [if 15=true]
        refine WL.goff rfl rfl (by decide) ?_   -- t43 := binOp eql 23 t42 c(7:i64) 23 [if 15=true]
        refine WL.val (Y.pick rfl rfl) (by decide) ?_   -- t44 := pick t41 t43 c(false)
        refine WL.val (Y.move rfl) (by decide) ?_   -- t45 := move t44
        refine WL.goff rfl rfl (by decide) ?_   -- t46 := call F10() :  [if 19=true]
        refine WL.val (Y.pick rfl rfl) (by decide) ?_   -- t47 := pick t45 t46 c(false)
        refine WL.val (Y.assign rfl) (by decide) ?_   -- t4 := assign t47
        refine WL.nil ?_
        refine hK7 _ _ ?_; try clear hK7 K7
        refine CW.ret ⟨_, rfl, ?_⟩
        exact absurd (by rw [fanE, if_neg hnu]) hg33
    · -- t29 = F
      refine WL.goff rfl rfl (by decide) ?_   -- t30 := move t6 [if 3=true]
      refine WL.goff rfl rfl (by decide) ?_   -- t31 := binOp eql 23 t30 c(7:i64) 23 [if 3=true]
      refine WL.val (Y.pick rfl rfl) (by decide) ?_   -- t32 := pick t29 t31 c(false)
      refine WL.val (Y.move rfl) (by decide) ?_   -- t33 := move t32
      refine WL.goff rfl rfl (by decide) ?_   -- t34 := move t7 [if 7=true]
      refine WL.goff rfl rfl (by decide) ?_   -- t35 := binOp eql 3 t34 c(0:i64) 3 [if 7=true]
      refine WL.val (Y.pick rfl rfl) (by decide) ?_   -- t36 := pick t33 t35 c(false)
      refine WL.val (Y.move rfl) (by decide) ?_   -- t37 := move t36
      refine WL.goff rfl rfl (by decide) ?_   -- t38 := move t8 [if 11=true]
      refine WL.goff rfl rfl (by decide) ?_   -- t39 := unOp not 4 t38 [if 11=true]
      refine WL.val (Y.pick rfl rfl) (by decide) ?_   -- t40 := pick t37 t39 c(false)
      refine WL.val (Y.move rfl) (by decide) ?_   -- t41 := move t40
      refine WL.goff rfl rfl (by decide) ?_   -- t42 := move t9 [if 15=true]
      refine WL.goff rfl rfl (by decide) ?_   -- t43 := binOp eql 23 t42 c(7:i64) 23 [if 15=true]
      refine WL.val (Y.pick rfl rfl) (by decide) ?_   -- t44 := pick t41 t43 c(false)
      refine WL.val (Y.move rfl) (by decide) ?_   -- t45 := move t44
      refine WL.goff rfl rfl (by decide) ?_   -- t46 := call F10() :  [if 19=true]
      refine WL.val (Y.pick rfl rfl) (by decide) ?_   -- t47 := pick t45 t46 c(false)
      refine WL.val (Y.assign rfl) (by decide) ?_   -- t4 := assign t47
      refine WL.nil ?_
      refine hK7 _ _ ?_; try clear hK7 K7
      refine CW.ret ⟨_, rfl, ?_⟩
      cases hg29
  -- else
  refine CW.skip ?_
  refine hK4 _ _ ?_; try clear hK4 K4
  refine CW.seq fun K8 hK8 => ?_
  refine CW.seq fun K9 hK9 => ?_
  refine CW.region ?_   -- region 5
  refine WL.val (Y.assign rfl) (by decide) ?_   -- t10 := assign c(0:i64)
  refine WL.nil ?_
  refine hK9 _ _ ?_; try clear hK9 K9
  have hup : Up l := by simpa using ht6
  rw [fanF, if_pos hup] at hB5
  have hfe : fanE l = 0 := by rw [fanE, if_pos hup]
  refine CW.block ?_   -- block 0
  refine CW.loop (X := Nat) (fun x => [(0, .slice A m c), (3, .pointer (some ⟨g3, 0, none⟩)), (5, .pointer (some ⟨g5, 0, none⟩)), (6, .int .i64 (fanE l)), (7, .int .i64 (n : Int)), (8, .bool (decide (Up l ∧ k ∈ l))), (9, .int .i64 (fanE l)), (10, .int .i64 (x : Int))]) (fun x w0 => x ≤ 256 ∧ Ext w w0 ∧ Blk w0 g3 31 (digC k) ∧ Blk w0 g5 TFn (fanC (les l)) ∧ Mem w0 ⟨0, 0, none⟩ (wds keysL)) (fun x => 256 - x) 0 (by repeat (first | exact Fr.le.nil | refine Fr.le.cons rfl ?_)) ⟨Nat.zero_le _, hE, hB3, hB5, hK⟩ ?_
  intro x w7 hl7
  obtain ⟨hx, hE, hB3, hB5, hK⟩ := hl7
  refine CW.seq fun K10 hK10 => ?_
  refine CW.seq fun K11 hK11 => ?_
  refine CW.region ?_   -- region 6
  refine WL.val (Y.move rfl) (by decide) ?_   -- t48 := move t10
  refine WL.val (Y.lss rfl rfl) (by decide) ?_   -- t49 := binOp lss 3 t48 c(256:i64) 3
  refine WL.nil ?_
  refine hK11 _ _ ?_; try clear hK11 K11
  first | refine CW.condD rfl (fun ht12 => ?_) (fun ht12 => ?_) | refine CW.condND rfl (fun ht12 => ?_) (fun ht12 => ?_) | refine CW.condN rfl (fun ht12 => ?_) (fun ht12 => ?_) | refine CW.cond rfl (fun ht12 => ?_) (fun ht12 => ?_)
  · -- then
    refine CW.skip ?_
    refine hK10 _ _ ?_; try clear hK10 K10
    refine CW.seq fun K13 hK13 => ?_
    refine CW.block ?_   -- block 1
    refine CW.seq fun K14 hK14 => ?_
    refine CW.quiet (fun wq => Ext w7 wq) (by kernel_rfl) (by kernel_rfl) Chg.drew ?_
    refine QL.val (fun wq hq => Y.move rfl) (by decide) ?_   -- t52 := move t10
    refine QL.val (fun wq hq => Y.indexAddrAN Tryd.underlying38 rfl rfl sz0_int (by omega)) (by decide) ?_   -- t53 := indexAddr 38 t5 t52
    refine QL.val (fun wq hq => Y.load1 Tryd.underlying3 rfl (by rw [Nat.mul_one]; exact (hB5.ext hq).mem.cell x (fanC_get _ (by omega))) rfl) (by decide) ?_   -- t54 := load 3 t53
    refine QL.val (fun wq hq => Y.move rfl) (by decide) ?_   -- t55 := move t0
    refine QL.val (fun wq hq => Y.move rfl) (by decide) ?_   -- t56 := move t10
    refine QL.call Tryd.func17 rfl rfl rfl (fun wq hq => ret_ext (rBelow_any _ l x _ (hl.ext (hE.thenExt hq))) hq) (by simp) ?_   -- t57 := call F17(t55, t56) : 29,3
    refine QL.val (fun wq hq => Y.neq rfl rfl) (by decide) ?_   -- t58 := binOp neq 3 t54 t57 3
    refine QL.nil fun w8 hx8 => ?_
    have hz8 := hx8.size
    have hE := hE.thenExt hx8
    have hK := hK.ext hx8
    have hB3 := hB3.ext hx8
    have hB5 := hB5.ext hx8
    refine hK14 _ _ ?_; try clear hK14 K14
    first | refine CW.condD rfl (fun ht15 => ?_) (fun ht15 => ?_) | refine CW.condND rfl (fun ht15 => ?_) (fun ht15 => ?_) | refine CW.condN rfl (fun ht15 => ?_) (fun ht15 => ?_) | refine CW.cond rfl (fun ht15 => ?_) (fun ht15 => ?_)
    · -- then
      refine CW.seq fun K16 hK16 => ?_
      refine CW.region ?_   -- region 9
      refine WL.val (Y.assign rfl) (by decide) ?_   -- t4 := assign c(false)
      refine WL.nil ?_
      refine hK16 _ _ ?_; try clear hK16 K16
      refine CW.ret ⟨_, rfl, ?_⟩
      exact absurd rfl ht15
    -- else
    refine CW.skip ?_
    refine hK13 _ _ ?_; try clear hK13 K13
    refine CW.region ?_   -- region 7
    refine WL.val (Y.move rfl) (by decide) ?_   -- t50 := move t10
    refine WL.val (Y.add rfl rfl ⟨by omega, by omega⟩) (by decide) ?_   -- t51 := binOp add 3 t50 c(1:i64) 3
    refine WL.val (Y.assign rfl) (by decide) ?_   -- t10 := assign t51
    refine WL.nil ?_
    exact ⟨x + 1, by show 256 - (x + 1) < 256 - x; omega, (by repeat (first | exact Fr.le.nil | refine Fr.le.cons rfl ?_)), by show x + 1 ≤ 256; omega, hE, hB3, hB5, hK⟩
  -- else
  refine CW.exit ?_   -- exit 0
  refine hK8 _ _ ?_; try clear hK8 K8
  refine CW.seq fun K17 hK17 => ?_
  refine CW.seq_testE 79 (False) ?_ ?_
  · refine CW.region ?_
    refine WL.val (Y.move rfl) (by decide) ?_   -- t59 := move t6
    refine WL.val (Y.neq rfl rfl) (by decide) ?_   -- t60 := binOp neq 23 t59 c(0:i64) 23
    refine WL.val (Y.move rfl) (by decide) ?_   -- t61 := move t60
    first | refine WL.casesD (d := 61) rfl (fun hg61 => ?_) (fun hg61 => ?_) | refine WL.casesND (d := 61) rfl (fun hg61 => ?_) (fun hg61 => ?_) | refine WL.cases (d := 61) rfl (fun hg61 => ?_) (fun hg61 => ?_)
    · -- t61 = T
      refine WL.goff rfl rfl (by decide) ?_   -- t62 := move t9 [if 2=false]
      refine WL.goff rfl rfl (by decide) ?_   -- t63 := binOp neq 23 t62 c(0:i64) 23 [if 2=false]
      refine WL.val (Y.pick rfl rfl) (by decide) ?_   -- t64 := pick t61 c(true) t63
      refine WL.val (Y.move rfl) (by decide) ?_   -- t65 := move t64
      refine WL.goff rfl rfl (by decide) ?_   -- t66 := move t8 [if 6=false]
      refine WL.goff rfl rfl (by decide) ?_   -- t67 := move t0 [if 6=false]
      refine WL.goff rfl rfl (by decide) ?_   -- t68 := load 31 t3 [if 6=false]
      refine WL.goff rfl rfl (by decide) ?_   -- t69 := call F18(t67, t68) : 29,31 [if 6=false]
      refine WL.goff rfl rfl (by decide) ?_   -- t70 := binOp neq 4 t66 t69 4 [if 6=false]
      refine WL.val (Y.pick rfl rfl) (by decide) ?_   -- t71 := pick t65 c(true) t70
      refine WL.val (Y.move rfl) (by decide) ?_   -- t72 := move t71
      refine WL.goff rfl rfl (by decide) ?_   -- t73 := move t8 [if 13=false]
      refine WL.goff rfl rfl (by decide) ?_   -- t74 := unOp not 4 t73 [if 13=false]
      refine WL.goff rfl rfl (by decide) ?_   -- t75 := move t74 [if 13=false]
      refine WL.goffU rfl rfl (by decide) ?_   -- t76 := move t7 [if 16=true]
      refine WL.goffU rfl rfl (by decide) ?_   -- t77 := binOp neq 3 t76 c(0:i64) 3 [if 16=true]
      refine WL.goff rfl rfl (by decide) ?_   -- t78 := pick t75 t77 c(false) [if 13=false]
      refine WL.val (Y.pick rfl rfl) (by decide) ?_   -- t79 := pick t72 c(true) t78
      refine WL.nil ⟨⟨_, rfl, ?_⟩, (by first | exact Chg.refl | exact hx9), (by repeat (first | exact Fr.le.refl | refine Fr.le.push rfl ?_))⟩
      first | (simp only [*, Int.natCast_inj, Bool.not_eq_true', decide_eq_false_iff_not, decide_eq_true_eq, not_true_eq_false, not_false_eq_true, true_and, false_and, and_true, and_false, false_or, or_false, true_or, or_true, iff_true, true_iff, iff_false, false_iff]; done) | (simp_all; done) | (refine congrArg Value.bool (Bool.eq_iff_iff.2 ?_); simp_all; done) | (simp_all; omega)
    · -- t61 = F
      refine WL.gval rfl rfl (Y.move rfl) (by decide) ?_   -- t62 := move t9 [if 2=false]
      refine WL.gval rfl rfl (Y.neq rfl rfl) (by decide) ?_   -- t63 := binOp neq 23 t62 c(0:i64) 23 [if 2=false]
      refine WL.val (Y.pick rfl rfl) (by decide) ?_   -- t64 := pick t61 c(true) t63
      refine WL.val (Y.move rfl) (by decide) ?_   -- t65 := move t64
      first | refine WL.casesD (d := 65) rfl (fun hg65 => ?_) (fun hg65 => ?_) | refine WL.casesND (d := 65) rfl (fun hg65 => ?_) (fun hg65 => ?_) | refine WL.cases (d := 65) rfl (fun hg65 => ?_) (fun hg65 => ?_)
      · -- t65 = T
        refine WL.goff rfl rfl (by decide) ?_   -- t66 := move t8 [if 6=false]
        refine WL.goff rfl rfl (by decide) ?_   -- t67 := move t0 [if 6=false]
        refine WL.goff rfl rfl (by decide) ?_   -- t68 := load 31 t3 [if 6=false]
        refine WL.goff rfl rfl (by decide) ?_   -- t69 := call F18(t67, t68) : 29,31 [if 6=false]
        refine WL.goff rfl rfl (by decide) ?_   -- t70 := binOp neq 4 t66 t69 4 [if 6=false]
        refine WL.val (Y.pick rfl rfl) (by decide) ?_   -- t71 := pick t65 c(true) t70
        refine WL.val (Y.move rfl) (by decide) ?_   -- t72 := move t71
        refine WL.goff rfl rfl (by decide) ?_   -- t73 := move t8 [if 13=false]
        refine WL.goff rfl rfl (by decide) ?_   -- t74 := unOp not 4 t73 [if 13=false]
        refine WL.goff rfl rfl (by decide) ?_   -- t75 := move t74 [if 13=false]
        refine WL.goffU rfl rfl (by decide) ?_   -- t76 := move t7 [if 16=true]
        refine WL.goffU rfl rfl (by decide) ?_   -- t77 := binOp neq 3 t76 c(0:i64) 3 [if 16=true]
        refine WL.goff rfl rfl (by decide) ?_   -- t78 := pick t75 t77 c(false) [if 13=false]
        refine WL.val (Y.pick rfl rfl) (by decide) ?_   -- t79 := pick t72 c(true) t78
        refine WL.nil ⟨⟨_, rfl, ?_⟩, (by first | exact Chg.refl | exact hx9), (by repeat (first | exact Fr.le.refl | refine Fr.le.push rfl ?_))⟩
        first | (simp only [*, Int.natCast_inj, Bool.not_eq_true', decide_eq_false_iff_not, decide_eq_true_eq, not_true_eq_false, not_false_eq_true, true_and, false_and, and_true, and_false, false_or, or_false, true_or, or_true, iff_true, true_iff, iff_false, false_iff]; done) | (simp_all; done) | (refine congrArg Value.bool (Bool.eq_iff_iff.2 ?_); simp_all; done) | (simp_all; omega)
      · -- t65 = F
        refine WL.gval rfl rfl (Y.move rfl) (by decide) ?_   -- t66 := move t8 [if 6=false]
        refine WL.gval rfl rfl (Y.move rfl) (by decide) ?_   -- t67 := move t0 [if 6=false]
        refine WL.gval rfl rfl (Y.load Tryd.underlying31 rfl hB3.mem (sz_apiDigest _) rfl) (by decide) ?_   -- t68 := load 31 t3 [if 6=false]
        refine WL.gcall rfl rfl Tryd.func18 rfl rfl rfl (pIn_any _ l k _ (hl.ext hE)) (by decide) ?_; rintro v69 w9 hR9   -- t69 := call F18(t67, t68) : 29,31 [if 6=false]
        obtain ⟨rfl, hx9⟩ := hR9
        have hz9 := hx9.size
        have hE := hE.thenExt hx9
        have hK := hK.ext hx9
        have hB3 := hB3.ext hx9
        have hB5 := hB5.ext hx9
        refine WL.gval rfl rfl (Y.neq_bool Tryd.underlying4 rfl rfl) (by decide) ?_   -- t70 := binOp neq 4 t66 t69 4 [if 6=false]
        refine WL.val (Y.pick rfl rfl) (by decide) ?_   -- t71 := pick t65 c(true) t70
        refine WL.val (Y.move rfl) (by decide) ?_   -- t72 := move t71
        first | refine WL.casesD (d := 72) rfl (fun hg72 => ?_) (fun hg72 => ?_) | refine WL.casesND (d := 72) rfl (fun hg72 => ?_) (fun hg72 => ?_) | refine WL.cases (d := 72) rfl (fun hg72 => ?_) (fun hg72 => ?_)
        · -- t72 = T
          refine WL.goff rfl rfl (by decide) ?_   -- t73 := move t8 [if 13=false]
          refine WL.goff rfl rfl (by decide) ?_   -- t74 := unOp not 4 t73 [if 13=false]
          refine WL.goff rfl rfl (by decide) ?_   -- t75 := move t74 [if 13=false]
          refine WL.goffU rfl rfl (by decide) ?_   -- t76 := move t7 [if 16=true]
          refine WL.goffU rfl rfl (by decide) ?_   -- t77 := binOp neq 3 t76 c(0:i64) 3 [if 16=true]
          refine WL.goff rfl rfl (by decide) ?_   -- t78 := pick t75 t77 c(false) [if 13=false]
          refine WL.val (Y.pick rfl rfl) (by decide) ?_   -- t79 := pick t72 c(true) t78
          refine WL.nil ⟨⟨_, rfl, ?_⟩, (by first | exact Chg.refl | exact hx9), (by repeat (first | exact Fr.le.refl | refine Fr.le.push rfl ?_))⟩
          first | (simp only [*, Int.natCast_inj, Bool.not_eq_true', decide_eq_false_iff_not, decide_eq_true_eq, not_true_eq_false, not_false_eq_true, true_and, false_and, and_true, and_false, false_or, or_false, true_or, or_true, iff_true, true_iff, iff_false, false_iff]; done) | (simp_all; done) | (refine congrArg Value.bool (Bool.eq_iff_iff.2 ?_); simp_all; done) | (simp_all; omega)
        · -- t72 = F
          refine WL.gval rfl rfl (Y.move rfl) (by decide) ?_   -- t73 := move t8 [if 13=false]
          refine WL.gval rfl rfl (Y.not rfl) (by decide) ?_   -- t74 := unOp not 4 t73 [if 13=false]
          refine WL.gval rfl rfl (Y.move rfl) (by decide) ?_   -- t75 := move t74 [if 13=false]
          first | refine WL.casesD (d := 75) rfl (fun hg75 => ?_) (fun hg75 => ?_) | refine WL.casesND (d := 75) rfl (fun hg75 => ?_) (fun hg75 => ?_) | refine WL.cases (d := 75) rfl (fun hg75 => ?_) (fun hg75 => ?_)
          · -- t75 = T
            refine WL.gval rfl rfl (Y.move rfl) (by decide) ?_   -- t76 := move t7 [if 16=true]
            refine WL.gval rfl rfl (Y.neq rfl rfl) (by decide) ?_   -- t77 := binOp neq 3 t76 c(0:i64) 3 [if 16=true]
            refine WL.gval rfl rfl (Y.pick rfl rfl) (by decide) ?_   -- t78 := pick t75 t77 c(false) [if 13=false]
            refine WL.val (Y.pick rfl rfl) (by decide) ?_   -- t79 := pick t72 c(true) t78
            refine WL.nil ⟨⟨_, rfl, ?_⟩, (by first | exact Chg.refl | exact hx9), (by repeat (first | exact Fr.le.refl | refine Fr.le.push rfl ?_))⟩
            first | (simp only [*, Int.natCast_inj, Bool.not_eq_true', decide_eq_false_iff_not, decide_eq_true_eq, not_true_eq_false, not_false_eq_true, true_and, false_and, and_true, and_false, false_or, or_false, true_or, or_true, iff_true, true_iff, iff_false, false_iff]; done) | (simp_all; done) | (refine congrArg Value.bool (Bool.eq_iff_iff.2 ?_); simp_all; done) | (simp_all; omega)
          · -- t75 = F
            refine WL.goff rfl rfl (by decide) ?_   -- t76 := move t7 [if 16=true]
            refine WL.goff rfl rfl (by decide) ?_   -- t77 := binOp neq 3 t76 c(0:i64) 3 [if 16=true]
            refine WL.gval rfl rfl (Y.pick rfl rfl) (by decide) ?_   -- t78 := pick t75 t77 c(false) [if 13=false]
            refine WL.val (Y.pick rfl rfl) (by decide) ?_   -- t79 := pick t72 c(true) t78
            refine WL.nil ⟨⟨_, rfl, ?_⟩, (by first | exact Chg.refl | exact hx9), (by repeat (first | exact Fr.le.refl | refine Fr.le.push rfl ?_))⟩
            first | (simp only [*, Int.natCast_inj, Bool.not_eq_true', decide_eq_false_iff_not, decide_eq_true_eq, not_true_eq_false, not_false_eq_true, true_and, false_and, and_true, and_false, false_or, or_false, true_or, or_true, iff_true, true_iff, iff_false, false_iff]; done) | (simp_all; done) | (refine congrArg Value.bool (Bool.eq_iff_iff.2 ?_); simp_all; done) | (simp_all; omega)
  intro w10 hx10; have hz10 := hx10.size; have hE := hE.thenExt hx10; have hK := hK.ext hx10; have hB3 := hB3.ext hx10; have hB5 := hB5.ext hx10
  first | refine CW.condD rfl (fun ht18 => ?_) (fun ht18 => ?_) | refine CW.condND rfl (fun ht18 => ?_) (fun ht18 => ?_) | refine CW.condN rfl (fun ht18 => ?_) (fun ht18 => ?_) | refine CW.cond rfl (fun ht18 => ?_) (fun ht18 => ?_)
  · -- then
    refine CW.seq fun K19 hK19 => ?_
    refine CW.region ?_   -- region 11
    refine WL.val (Y.assign rfl) (by decide) ?_   -- t4 := assign c(false)
    refine WL.nil ?_
    refine hK19 _ _ ?_; try clear hK19 K19
    refine CW.ret ⟨_, rfl, ?_⟩
    exact ht18.elim
  -- else
  refine CW.skip ?_
  refine hK17 _ _ ?_; try clear hK17 K17
  refine CW.seq fun K20 hK20 => ?_
  refine CW.held (fun wq => Ext w10 wq) (by kernel_rfl) 24 rfl fun w11 hS => ?_
  refine RH.take 0 (fun _ _ _ _ h => h) (by kernel_rfl) hS rfl (by kernel_rfl) (by kernel_rfl) (fun wq hq => Y.move rfl) (by decide) ?_   -- t80 := move t8
  refine RH.take 1 (fun _ _ _ _ h => h) (by kernel_rfl) hS rfl (by kernel_rfl) (by kernel_rfl) (fun wq hq => Y.not rfl) (by decide) ?_   -- t81 := unOp not 4 t80
  refine RH.take 2 (fun _ _ _ _ h => h) (by kernel_rfl) hS rfl (by kernel_rfl) (by kernel_rfl) (fun wq hq => Y.move rfl) (by decide) ?_   -- t82 := move t81
  first | refine RH.casesD (d := 82) rfl (fun hg82 => ?_) (fun hg82 => ?_) | refine RH.cases (d := 82) rfl (fun hg82 => ?_) (fun hg82 => ?_)
  · -- t82 = T
    refine RH.goff 3 (fun _ _ _ _ h => h) (by kernel_rfl) hS rfl (by kernel_rfl) (by kernel_rfl) rfl rfl (by decide) ?_   -- t83 := move t7
    refine RH.goff 4 (fun _ _ _ _ h => h) (by kernel_rfl) hS rfl (by kernel_rfl) (by kernel_rfl) rfl rfl (by decide) ?_   -- t84 := binOp geq 3 t83 c(0:i64) 3
    refine RH.goff 5 (fun _ _ _ _ h => h) (by kernel_rfl) hS rfl (by kernel_rfl) (by kernel_rfl) rfl rfl (by decide) ?_   -- t85 := move t84
    refine RH.goffU 6 (fun _ _ _ _ h => h) (by kernel_rfl) hS rfl (by kernel_rfl) (by kernel_rfl) rfl rfl (by decide) ?_   -- t86 := move t7
    refine RH.goffU 7 (fun _ _ _ _ h => h) (by kernel_rfl) hS rfl (by kernel_rfl) (by kernel_rfl) rfl rfl (by decide) ?_   -- t87 := move t0
    refine RH.goffU 8 (fun _ _ _ _ h => h) (by kernel_rfl) hS rfl (by kernel_rfl) (by kernel_rfl) rfl rfl (by decide) ?_   -- t88 := call len(t87) : 29
    refine RH.goffU 9 (fun _ _ _ _ h => h) (by kernel_rfl) hS rfl (by kernel_rfl) (by kernel_rfl) rfl rfl (by decide) ?_   -- t89 := binOp lss 3 t86 t88 3
    refine RH.goff 10 (fun _ _ _ _ h => h) (by kernel_rfl) hS rfl (by kernel_rfl) (by kernel_rfl) rfl rfl (by decide) ?_   -- t90 := pick t85 t89 c(false)
    refine RH.goff 11 (fun _ _ _ _ h => h) (by kernel_rfl) hS rfl (by kernel_rfl) (by kernel_rfl) rfl rfl (by decide) ?_   -- t91 := move t90
    refine RH.goffU 12 (fun _ _ _ _ h => h) (by kernel_rfl) hS rfl (by kernel_rfl) (by kernel_rfl) rfl rfl (by decide) ?_   -- t92 := move t0
    refine RH.goffU 13 (fun _ _ _ _ h => h) (by kernel_rfl) hS rfl (by kernel_rfl) (by kernel_rfl) rfl rfl (by decide) ?_   -- t93 := move t7
    refine RH.goffU 14 (fun _ _ _ _ h => h) (by kernel_rfl) hS rfl (by kernel_rfl) (by kernel_rfl) rfl rfl (by decide) ?_   -- t94 := indexAddr 29 t92 t93
    refine RH.goffU 15 (fun _ _ _ _ h => h) (by kernel_rfl) hS rfl (by kernel_rfl) (by kernel_rfl) rfl rfl (by decide) ?_   -- t95 := load 31 t94
    refine RH.goffU 16 (fun _ _ _ _ h => h) (by kernel_rfl) hS rfl (by kernel_rfl) (by kernel_rfl) rfl rfl (by decide) ?_   -- t96 := load 31 t3
    refine RH.goffU 17 (fun _ _ _ _ h => h) (by kernel_rfl) hS rfl (by kernel_rfl) (by kernel_rfl) rfl rfl (by decide) ?_   -- t97 := binOp eql 31 t95 t96 31
    refine RH.goff 18 (fun _ _ _ _ h => h) (by kernel_rfl) hS rfl (by kernel_rfl) (by kernel_rfl) rfl rfl (by decide) ?_   -- t98 := pick t91 t97 c(false)
    refine RH.take 19 (fun _ _ _ _ h => h) (by kernel_rfl) hS rfl (by kernel_rfl) (by kernel_rfl) (fun wq hq => Y.pick rfl rfl) (by decide) ?_   -- t99 := pick t82 c(true) t98
    refine RH.take 20 (fun _ _ _ _ h => h) (by kernel_rfl) hS rfl (by kernel_rfl) (by kernel_rfl) (fun wq hq => Y.move rfl) (by decide) ?_   -- t100 := move t99
    refine RH.one 21 (by kernel_rfl) ?_
    refine RS.call rfl (fun _ _ h => by cases h; exact ⟨_, rfl, rfl⟩) Tryd.func10 rfl rfl rfl (palive_any _ (hK.ext hS)) (by decide) fun v101 w12 hR12 => ?_   -- call F10() : 
    obtain ⟨rfl, hx12⟩ := hR12
    have hS := hS.thenExt hx12
    refine ⟨hS, ?_⟩
    refine RH.take 22 (fun _ _ _ _ h => h) (by kernel_rfl) hS rfl (by kernel_rfl) (by kernel_rfl) (fun wq hq => Y.pick rfl rfl) (by decide) ?_   -- t102 := pick t100 t101 c(false)
    refine RH.take 23 (fun _ _ _ _ h => h) (by kernel_rfl) hS rfl (by kernel_rfl) (by kernel_rfl) (fun wq hq => Y.assign rfl) (by decide) ?_   -- t4 := assign t102
    refine RH.done (by kernel_rfl) ?_
    have hx13 := hS; have hz13 := hx13.size; have hE := hE.thenExt hx13; have hK := hK.ext hx13; have hB3 := hB3.ext hx13; have hB5 := hB5.ext hx13
    refine hK20 _ _ ?_; try clear hK20 K20
    refine CW.ret ⟨_, rfl, ?_⟩
    exact ⟨rfl, hE⟩
  · -- t82 = F
    have hok : Up l ∧ k ∈ l := by simpa using hg82
    have hlk := hn1 hok
    have hnl := (List.getElem?_eq_some_iff.1 hlk).1
    obtain ⟨a, rfl, hmk⟩ := (hl.ext hE).at hlk
    refine RH.gtake 3 (fun _ _ _ _ h => h) (by kernel_rfl) hS rfl (by kernel_rfl) (by kernel_rfl) rfl rfl (fun wq hq => Y.move rfl) (by decide) ?_   -- t83 := move t7
    refine RH.gtake 4 (fun _ _ _ _ h => h) (by kernel_rfl) hS rfl (by kernel_rfl) (by kernel_rfl) rfl rfl (fun wq hq => Y.geq rfl rfl) (by decide) ?_   -- t84 := binOp geq 3 t83 c(0:i64) 3
    refine RH.gtake 5 (fun _ _ _ _ h => h) (by kernel_rfl) hS rfl (by kernel_rfl) (by kernel_rfl) rfl rfl (fun wq hq => Y.move rfl) (by decide) ?_   -- t85 := move t84
    first | refine RH.casesD (d := 85) rfl (fun hg85 => ?_) (fun hg85 => ?_) | refine RH.cases (d := 85) rfl (fun hg85 => ?_) (fun hg85 => ?_)
    · -- t85 = T
      refine RH.gtake 6 (fun _ _ _ _ h => h) (by kernel_rfl) hS rfl (by kernel_rfl) (by kernel_rfl) rfl rfl (fun wq hq => Y.move rfl) (by decide) ?_   -- t86 := move t7
      refine RH.gtake 7 (fun _ _ _ _ h => h) (by kernel_rfl) hS rfl (by kernel_rfl) (by kernel_rfl) rfl rfl (fun wq hq => Y.move rfl) (by decide) ?_   -- t87 := move t0
      refine RH.gtake 8 (fun _ _ _ _ h => h) (by kernel_rfl) hS rfl (by kernel_rfl) (by kernel_rfl) rfl rfl (fun wq hq => Y.len_slice Tryd.underlying29 rfl) (by decide) ?_   -- t88 := call len(t87) : 29
      refine RH.gtake 9 (fun _ _ _ _ h => h) (by kernel_rfl) hS rfl (by kernel_rfl) (by kernel_rfl) rfl rfl (fun wq hq => Y.lss rfl rfl) (by decide) ?_   -- t89 := binOp lss 3 t86 t88 3
      refine RH.gtake 10 (fun _ _ _ _ h => h) (by kernel_rfl) hS rfl (by kernel_rfl) (by kernel_rfl) rfl rfl (fun wq hq => Y.pick rfl rfl) (by decide) ?_   -- t90 := pick t85 t89 c(false)
      refine RH.gtake 11 (fun _ _ _ _ h => h) (by kernel_rfl) hS rfl (by kernel_rfl) (by kernel_rfl) rfl rfl (fun wq hq => Y.move rfl) (by decide) ?_   -- t91 := move t90
      first | refine RH.casesD (d := 91) rfl (fun hg91 => ?_) (fun hg91 => ?_) | refine RH.cases (d := 91) rfl (fun hg91 => ?_) (fun hg91 => ?_)
      · -- t91 = T
        refine RH.gtake 12 (fun _ _ _ _ h => h) (by kernel_rfl) hS rfl (by kernel_rfl) (by kernel_rfl) rfl rfl (fun wq hq => Y.move rfl) (by decide) ?_   -- t92 := move t0
        refine RH.gtake 13 (fun _ _ _ _ h => h) (by kernel_rfl) hS rfl (by kernel_rfl) (by kernel_rfl) rfl rfl (fun wq hq => Y.move rfl) (by decide) ?_   -- t93 := move t7
        refine RH.gtake 14 (fun _ _ _ _ h => h) (by kernel_rfl) hS rfl (by kernel_rfl) (by kernel_rfl) rfl rfl (fun wq hq => Y.indexAddrN Tryd.underlying29 rfl rfl sz0_apiDigest (by omega)) (by decide) ?_   -- t94 := indexAddr 29 t92 t93
        refine RH.gtake 15 (fun _ _ _ _ h => h) (by kernel_rfl) hS rfl (by kernel_rfl) (by kernel_rfl) rfl rfl (fun wq hq => Y.load Tryd.underlying31 rfl (hmk.ext hq) (sz_apiDigest _) rfl) (by decide) ?_   -- t95 := load 31 t94
        refine RH.gtake 16 (fun _ _ _ _ h => h) (by kernel_rfl) hS rfl (by kernel_rfl) (by kernel_rfl) rfl rfl (fun wq hq => Y.load Tryd.underlying31 rfl (hB3.ext hq).mem (sz_apiDigest _) rfl) (by decide) ?_   -- t96 := load 31 t3
        refine RH.gtake 17 (fun _ _ _ _ h => h) (by kernel_rfl) hS rfl (by kernel_rfl) (by kernel_rfl) rfl rfl (fun wq hq => Y.eql_apiDigest rfl rfl) (by decide) ?_   -- t97 := binOp eql 31 t95 t96 31
        refine RH.gtake 18 (fun _ _ _ _ h => h) (by kernel_rfl) hS rfl (by kernel_rfl) (by kernel_rfl) rfl rfl (fun wq hq => Y.pick rfl rfl) (by decide) ?_   -- t98 := pick t91 t97 c(false)
        refine RH.take 19 (fun _ _ _ _ h => h) (by kernel_rfl) hS rfl (by kernel_rfl) (by kernel_rfl) (fun wq hq => Y.pick rfl rfl) (by decide) ?_   -- t99 := pick t82 c(true) t98
        refine RH.take 20 (fun _ _ _ _ h => h) (by kernel_rfl) hS rfl (by kernel_rfl) (by kernel_rfl) (fun wq hq => Y.move rfl) (by decide) ?_   -- t100 := move t99
        first | refine RH.casesD (d := 100) rfl (fun hg100 => ?_) (fun hg100 => ?_) | refine RH.cases (d := 100) rfl (fun hg100 => ?_) (fun hg100 => ?_)
        · -- t100 = T
          refine RH.one 21 (by kernel_rfl) ?_
          refine RS.call rfl (fun _ _ h => by cases h; exact ⟨_, rfl, rfl⟩) Tryd.func10 rfl rfl rfl (palive_any _ (hK.ext hS)) (by decide) fun v101 w14 hR14 => ?_   -- call F10() : 
          obtain ⟨rfl, hx14⟩ := hR14
          have hS := hS.thenExt hx14
          refine ⟨hS, ?_⟩
          refine RH.take 22 (fun _ _ _ _ h => h) (by kernel_rfl) hS rfl (by kernel_rfl) (by kernel_rfl) (fun wq hq => Y.pick rfl rfl) (by decide) ?_   -- t102 := pick t100 t101 c(false)
          refine RH.take 23 (fun _ _ _ _ h => h) (by kernel_rfl) hS rfl (by kernel_rfl) (by kernel_rfl) (fun wq hq => Y.assign rfl) (by decide) ?_   -- t4 := assign t102
          refine RH.done (by kernel_rfl) ?_
          have hx15 := hS; have hz15 := hx15.size; have hE := hE.thenExt hx15; have hK := hK.ext hx15; have hB3 := hB3.ext hx15; have hB5 := hB5.ext hx15
          refine hK20 _ _ ?_; try clear hK20 K20
          refine CW.ret ⟨_, rfl, ?_⟩
          exact ⟨rfl, hE⟩
        · -- t100 = F
          refine RH.goff 21 (fun _ _ _ _ h => h) (by kernel_rfl) hS rfl (by kernel_rfl) (by kernel_rfl) rfl rfl (by decide) ?_   -- t101 := call F10() : 
          refine RH.take 22 (fun _ _ _ _ h => h) (by kernel_rfl) hS rfl (by kernel_rfl) (by kernel_rfl) (fun wq hq => Y.pick rfl rfl) (by decide) ?_   -- t102 := pick t100 t101 c(false)
          refine RH.take 23 (fun _ _ _ _ h => h) (by kernel_rfl) hS rfl (by kernel_rfl) (by kernel_rfl) (fun wq hq => Y.assign rfl) (by decide) ?_   -- t4 := assign t102
          refine RH.done (by kernel_rfl) ?_
          have hx16 := hS; have hz16 := hx16.size; have hE := hE.thenExt hx16; have hK := hK.ext hx16; have hB3 := hB3.ext hx16; have hB5 := hB5.ext hx16
          refine hK20 _ _ ?_; try clear hK20 K20
          refine CW.ret ⟨_, rfl, ?_⟩
          exact absurd rfl hg100
      · -- t91 = F
        refine RH.goff 12 (fun _ _ _ _ h => h) (by kernel_rfl) hS rfl (by kernel_rfl) (by kernel_rfl) rfl rfl (by decide) ?_   -- t92 := move t0
        refine RH.goff 13 (fun _ _ _ _ h => h) (by kernel_rfl) hS rfl (by kernel_rfl) (by kernel_rfl) rfl rfl (by decide) ?_   -- t93 := move t7
        refine RH.goff 14 (fun _ _ _ _ h => h) (by kernel_rfl) hS rfl (by kernel_rfl) (by kernel_rfl) rfl rfl (by decide) ?_   -- t94 := indexAddr 29 t92 t93
        refine RH.goff 15 (fun _ _ _ _ h => h) (by kernel_rfl) hS rfl (by kernel_rfl) (by kernel_rfl) rfl rfl (by decide) ?_   -- t95 := load 31 t94
        refine RH.goff 16 (fun _ _ _ _ h => h) (by kernel_rfl) hS rfl (by kernel_rfl) (by kernel_rfl) rfl rfl (by decide) ?_   -- t96 := load 31 t3
        refine RH.goff 17 (fun _ _ _ _ h => h) (by kernel_rfl) hS rfl (by kernel_rfl) (by kernel_rfl) rfl rfl (by decide) ?_   -- t97 := binOp eql 31 t95 t96 31
        refine RH.gtake 18 (fun _ _ _ _ h => h) (by kernel_rfl) hS rfl (by kernel_rfl) (by kernel_rfl) rfl rfl (fun wq hq => Y.pick rfl rfl) (by decide) ?_   -- t98 := pick t91 t97 c(false)
        refine RH.take 19 (fun _ _ _ _ h => h) (by kernel_rfl) hS rfl (by kernel_rfl) (by kernel_rfl) (fun wq hq => Y.pick rfl rfl) (by decide) ?_   -- t99 := pick t82 c(true) t98
        refine RH.take 20 (fun _ _ _ _ h => h) (by kernel_rfl) hS rfl (by kernel_rfl) (by kernel_rfl) (fun wq hq => Y.move rfl) (by decide) ?_   -- t100 := move t99
        refine RH.goff 21 (fun _ _ _ _ h => h) (by kernel_rfl) hS rfl (by kernel_rfl) (by kernel_rfl) rfl rfl (by decide) ?_   -- t101 := call F10() : 
        refine RH.take 22 (fun _ _ _ _ h => h) (by kernel_rfl) hS rfl (by kernel_rfl) (by kernel_rfl) (fun wq hq => Y.pick rfl rfl) (by decide) ?_   -- t102 := pick t100 t101 c(false)
        refine RH.take 23 (fun _ _ _ _ h => h) (by kernel_rfl) hS rfl (by kernel_rfl) (by kernel_rfl) (fun wq hq => Y.assign rfl) (by decide) ?_   -- t4 := assign t102
        refine RH.done (by kernel_rfl) ?_
        have hx17 := hS; have hz17 := hx17.size; have hE := hE.thenExt hx17; have hK := hK.ext hx17; have hB3 := hB3.ext hx17; have hB5 := hB5.ext hx17
        refine hK20 _ _ ?_; try clear hK20 K20
        refine CW.ret ⟨_, rfl, ?_⟩
        omega
    · -- t85 = F
      refine RH.goff 6 (fun _ _ _ _ h => h) (by kernel_rfl) hS rfl (by kernel_rfl) (by kernel_rfl) rfl rfl (by decide) ?_   -- t86 := move t7
      refine RH.goff 7 (fun _ _ _ _ h => h) (by kernel_rfl) hS rfl (by kernel_rfl) (by kernel_rfl) rfl rfl (by decide) ?_   -- t87 := move t0
      refine RH.goff 8 (fun _ _ _ _ h => h) (by kernel_rfl) hS rfl (by kernel_rfl) (by kernel_rfl) rfl rfl (by decide) ?_   -- t88 := call len(t87) : 29
      refine RH.goff 9 (fun _ _ _ _ h => h) (by kernel_rfl) hS rfl (by kernel_rfl) (by kernel_rfl) rfl rfl (by decide) ?_   -- t89 := binOp lss 3 t86 t88 3
      refine RH.gtake 10 (fun _ _ _ _ h => h) (by kernel_rfl) hS rfl (by kernel_rfl) (by kernel_rfl) rfl rfl (fun wq hq => Y.pick rfl rfl) (by decide) ?_   -- t90 := pick t85 t89 c(false)
      refine RH.gtake 11 (fun _ _ _ _ h => h) (by kernel_rfl) hS rfl (by kernel_rfl) (by kernel_rfl) rfl rfl (fun wq hq => Y.move rfl) (by decide) ?_   -- t91 := move t90
      refine RH.goff 12 (fun _ _ _ _ h => h) (by kernel_rfl) hS rfl (by kernel_rfl) (by kernel_rfl) rfl rfl (by decide) ?_   -- t92 := move t0
      refine RH.goff 13 (fun _ _ _ _ h => h) (by kernel_rfl) hS rfl (by kernel_rfl) (by kernel_rfl) rfl rfl (by decide) ?_   -- t93 := move t7
      refine RH.goff 14 (fun _ _ _ _ h => h) (by kernel_rfl) hS rfl (by kernel_rfl) (by kernel_rfl) rfl rfl (by decide) ?_   -- t94 := indexAddr 29 t92 t93
      refine RH.goff 15 (fun _ _ _ _ h => h) (by kernel_rfl) hS rfl (by kernel_rfl) (by kernel_rfl) rfl rfl (by decide) ?_   -- t95 := load 31 t94
      refine RH.goff 16 (fun _ _ _ _ h => h) (by kernel_rfl) hS rfl (by kernel_rfl) (by kernel_rfl) rfl rfl (by decide) ?_   -- t96 := load 31 t3
      refine RH.goff 17 (fun _ _ _ _ h => h) (by kernel_rfl) hS rfl (by kernel_rfl) (by kernel_rfl) rfl rfl (by decide) ?_   -- t97 := binOp eql 31 t95 t96 31
      refine RH.gtake 18 (fun _ _ _ _ h => h) (by kernel_rfl) hS rfl (by kernel_rfl) (by kernel_rfl) rfl rfl (fun wq hq => Y.pick rfl rfl) (by decide) ?_   -- t98 := pick t91 t97 c(false)
      refine RH.take 19 (fun _ _ _ _ h => h) (by kernel_rfl) hS rfl (by kernel_rfl) (by kernel_rfl) (fun wq hq => Y.pick rfl rfl) (by decide) ?_   -- t99 := pick t82 c(true) t98
      refine RH.take 20 (fun _ _ _ _ h => h) (by kernel_rfl) hS rfl (by kernel_rfl) (by kernel_rfl) (fun wq hq => Y.move rfl) (by decide) ?_   -- t100 := move t99
      refine RH.goff 21 (fun _ _ _ _ h => h) (by kernel_rfl) hS rfl (by kernel_rfl) (by kernel_rfl) rfl rfl (by decide) ?_   -- t101 := call F10() : 
      refine RH.take 22 (fun _ _ _ _ h => h) (by kernel_rfl) hS rfl (by kernel_rfl) (by kernel_rfl) (fun wq hq => Y.pick rfl rfl) (by decide) ?_   -- t102 := pick t100 t101 c(false)
      refine RH.take 23 (fun _ _ _ _ h => h) (by kernel_rfl) hS rfl (by kernel_rfl) (by kernel_rfl) (fun wq hq => Y.assign rfl) (by decide) ?_   -- t4 := assign t102
      refine RH.done (by kernel_rfl) ?_
      have hx18 := hS; have hz18 := hx18.size; have hE := hE.thenExt hx18; have hK := hK.ext hx18; have hB3 := hB3.ext hx18; have hB5 := hB5.ext hx18
      refine hK20 _ _ ?_; try clear hK20 K20
      refine CW.ret ⟨_, rfl, ?_⟩
      omega
end Go.Proofs.YtoncdfpohdchgaaDoor
