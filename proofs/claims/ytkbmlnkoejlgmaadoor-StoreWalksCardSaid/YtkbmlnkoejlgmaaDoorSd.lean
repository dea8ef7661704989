/- Lists of digests: slices.Index, slices.Contains, the reference's Sorted, walked; the plain law of sorting. No condition. -/
-- @alt f{recension/recensionlaw06.CommitSames}: Lb -> Kg Lo Nm
import Derived.Test.YtkbmlnkoejlgmaaDoorKg
import Derived.Test.YtkbmlnkoejlgmaaDoorLo
import Derived.Test.YtkbmlnkoejlgmaaDoorNm
set_option linter.unusedSimpArgs false
set_option linter.unusedVariables false
namespace Go.Pl
open Go.Fw
/-- The reference's insertion. -/
def insAt (d : Dig) : List Dig → Nat
  | [] => 0
  | x :: r => if lessB x d = true then insAt d r + 1 else 0
def insD (out : List Dig) (d : Dig) : List Dig := if out[insAt d out]? = some d then out else out.take (insAt d out) ++ d :: out.drop (insAt d out)
def srtD (l : List Dig) : List Dig := l.foldl insD []
theorem insAt_le (d : Dig) : ∀ out, insAt d out ≤ out.length
  | [] => Nat.le_refl _
  | x :: r => by
    rw [insAt]
    split
    · have := insAt_le d r; simp only [List.length_cons]; omega
    · exact Nat.zero_le _
theorem insAt_less (d : Dig) : ∀ (out : List Dig) (k : Nat) (x : Dig), k < insAt d out → out[k]? = some x → lessB x d = true
  | [], k, x, h, _ => by simp [insAt] at h
  | y :: r, k, x, h, hx => by
    rw [insAt] at h
    split at h
    · rename_i hy
      cases k with
      | zero => simp at hx; subst hx; exact hy
      | succ k => exact insAt_less d r k x (by omega) (by simpa using hx)
    · omega
theorem insAt_stop (d : Dig) : ∀ (out : List Dig) (x : Dig), out[insAt d out]? = some x → lessB x d = false
  | [], x, h => by simp at h
  | y :: r, x, h => by
    rw [insAt] at h
    split at h
    · exact insAt_stop d r x (by simpa using h)
    · rename_i hy
      simp at h; subst h
      simpa using hy
theorem insAt_is {d : Dig} : ∀ {out : List Dig} {k : Nat}, k ≤ out.length → (∀ j x, j < k → out[j]? = some x → lessB x d = true) → (∀ x, out[k]? = some x → lessB x d = false) → insAt d out = k
  | [], k, hk, _, _ => by simp at hk; subst hk; rfl
  | y :: r, 0, _, _, h2 => by rw [insAt, if_neg (by rw [h2 y rfl]; decide)]
  | y :: r, k + 1, hk, h1, h2 => by
    rw [insAt, if_pos (h1 0 y (by omega) rfl), insAt_is (by simpa using hk) (fun j x hj hx => h1 (j + 1) x (by omega) (by simpa using hx)) (fun x hx => h2 x (by simpa using hx))]
theorem insD_len (out : List Dig) (d : Dig) : (insD out d).length ≤ out.length + 1 := by
  unfold insD
  split
  · omega
  · have := insAt_le d out
    rw [List.length_append, List.length_cons, List.length_take, List.length_drop]; omega
theorem foldl_len (l : List Dig) : ∀ out : List Dig, (l.foldl insD out).length ≤ out.length + l.length := by
  induction l with
  | nil => intro out; simp
  | cons d l ih =>
    intro out
    have h1 := ih (insD out d)
    have h2 := insD_len out d
    simp only [List.foldl_cons, List.length_cons]; omega
theorem srtD_take {l : List Dig} {i : Nat} {d : Dig} (h : l[i]? = some d) : srtD (l.take (i + 1)) = insD (srtD (l.take i)) d := by
  rw [take_succ h, srtD, List.foldl_append]; rfl
end Go.Pl
namespace Go.Fw
open Go.RowKit
theorem Sl.at {α : Type} {w : World} {enc : α → List Value} {k : Nat} {A : Option Addr} {m c : Nat} {xs : List α} (h : Sl w enc k (.slice A m c) xs) {i : Nat} {x : α} (hx : xs[i]? = some x) : ∃ a, A = some a ∧ Mem w (a.add (i * k)) (enc x) := by
  obtain ⟨A', m', c', e, _, _, _, hls⟩ := h
  injection e with e1
  subst e1
  exact hls i x hx
end Go.Fw
namespace Go.Proofs.YtkbmlnkoejlgmaaDoor
open Go.RowKit Go.Fw Go.Pl
abbrev TDg : TypeId := 28

set_option maxRecDepth 20000 in
theorem sorted_any (u : Value) (l : List Dig) (w : World) (hu : Sl w digC 32 u l) (hp : l.length * 32 ≤ 140737488351232) : Calls Tryd.prog 33 #[u] w (Ret fun v w' => Own w' TDg 32 v (flatD (srtD l)) ∧ (∀ k, v.ownBlock = some k → w.heap.size ≤ k) ∧ Ext w w') := by
  have hl := hu
  obtain ⟨A, m, c, rfl, hm, hmc, hcm, _⟩ := hu
  unfold maxLen at hcm
  refine calls_of_CW 63 [2] [(0, .slice A m c)] Tryd.func33 rfl rfl rfl (by simp) args1 ?_
  have hE : Ext w w := Chg.refl
  refine CW.seq fun K1 hK1 => ?_
  refine CW.region ?_   -- region 0
  refine WL.val (Y.assign rfl) (by decide) ?_   -- t2 := assign c(nilslice)
  refine WL.nil ?_
  refine hK1 _ _ ?_; try clear hK1 K1
  refine CW.seq fun K2 hK2 => ?_
  refine CW.region ?_   -- region 1
  refine WL.val (Y.assign rfl) (by decide) ?_   -- t3 := assign c(nilslice)
  refine WL.nil ?_
  refine hK2 _ _ ?_; try clear hK2 K2
  refine CW.seq fun K3 hK3 => ?_
  refine CW.seq fun K4 hK4 => ?_
  refine CW.region ?_   -- region 2
  refine WL.val (Y.assign rfl) (by decide) ?_   -- t4 := assign c(0:i64)
  refine WL.nil ?_
  refine hK4 _ _ ?_; try clear hK4 K4
  refine CW.block ?_   -- block 0
  refine CW.loop (X := Nat × Value) (fun x => [(0, .slice A m c), (3, x.2), (4, .int .i64 (x.1 : Int))]) (fun x w0 => x.1 ≤ m ∧ Own w0 TDg 32 x.2 (flatD (srtD (l.take x.1))) ∧ (∀ k, x.2.ownBlock = some k → w.heap.size ≤ k) ∧ Ext w w0) (fun x => m - x.1) (0, .slice none 0 0) (by repeat (first | exact Fr.le.nil | refine Fr.le.cons rfl ?_)) ⟨Nat.zero_le _, Own.nil, (fun k h => by simp [Value.ownBlock] at h), hE⟩ ?_
  intro x w1 hl1
  obtain ⟨i, u⟩ := x
  dsimp only at hl1 ⊢
  obtain ⟨hi, hO, hfu, hE⟩ := hl1
  obtain ⟨B, mb, cb, rfl⟩ := hO.lens
  obtain ⟨hlen, hmb, hcb⟩ := hO.len digC_length (by decide)
  have hmi : mb ≤ i := by have := foldl_len (l.take i) []; rw [List.length_take, List.length_nil] at this; unfold srtD at hlen; omega
  have hz1 := hE.size
  obtain ⟨out, hout⟩ : ∃ out, out = srtD (l.take i) := ⟨_, rfl⟩
  rw [← hout] at hO hlen
  refine CW.seq fun K5 hK5 => ?_
  refine CW.seq fun K6 hK6 => ?_
  refine CW.region ?_   -- region 3
  refine WL.val (Y.move rfl) (by decide) ?_   -- t7 := move t4
  refine WL.val (Y.move rfl) (by decide) ?_   -- t8 := move t0
  refine WL.val (Y.len_slice Tryd.underlying46 rfl) (by decide) ?_   -- t9 := call len(t8) : 46
  refine WL.val (Y.lss rfl rfl) (by decide) ?_   -- t10 := binOp lss 3 t7 t9 3
  refine WL.nil ?_
  refine hK6 _ _ ?_; try clear hK6 K6
  first | refine CW.condD rfl (fun ht7 => ?_) (fun ht7 => ?_) | refine CW.condND rfl (fun ht7 => ?_) (fun ht7 => ?_) | refine CW.condN rfl (fun ht7 => ?_) (fun ht7 => ?_) | refine CW.cond rfl (fun ht7 => ?_) (fun ht7 => ?_)
  · -- then
    refine CW.skip ?_
    refine hK5 _ _ ?_; try clear hK5 K5
    obtain ⟨d, hd⟩ : ∃ d, l[i]? = some d := ⟨_, List.getElem?_eq_getElem (by omega)⟩
    obtain ⟨a, rfl, hma⟩ := hl.at hd
    refine CW.seq_to (X := Value) (fun u => [(0, .slice (some a) m c), (3, u), (4, .int .i64 (i : Int))]) (fun u w0 => Own w0 TDg 32 u (flatD (insD out d)) ∧ (∀ k, u.ownBlock = some k → w.heap.size ≤ k) ∧ Ext w w0) ?_ ?_
    · skip
      refine CW.block ?_   -- block 1
      refine CW.seq fun K9 hK9 => ?_
      refine CW.region ?_   -- region 5
      refine WL.val (Y.assign rfl) (by decide) ?_   -- t5 := assign c(0:i64)
      refine WL.nil ?_
      refine hK9 _ _ ?_; try clear hK9 K9
      refine CW.seq fun K10 hK10 => ?_
      refine CW.block ?_   -- block 2
      refine CW.loop (X := Nat) (fun x => [(0, .slice (some a) m c), (3, .slice B mb cb), (4, .int .i64 (i : Int)), (5, .int .i64 (x : Int))]) (fun x w0 => x ≤ mb ∧ (∀ j y, j < x → out[j]? = some y → lessB y d = true) ∧ Ext w1 w0) (fun x => mb - x) 0 (by repeat (first | exact Fr.le.nil | refine Fr.le.cons rfl ?_)) ⟨Nat.zero_le _, (fun j y h => absurd h (by omega)), Chg.refl⟩ ?_
      intro x w2 hl2
      obtain ⟨hxm, hles, hx12⟩ := hl2
      have hE := hE.thenExt hx12
      have hz2 := hx12.size
      have hO := hO.ext hx12
      have hlo := hO.lt
      obtain ⟨y, hy⟩ : ∃ y : Dig, x < mb → out[x]? = some y := by
        by_cases h : x < mb
        · exact ⟨_, fun _ => List.getElem?_eq_getElem (by rw [hlen]; exact h)⟩
        · exact ⟨d, fun h' => absurd h' h⟩
      refine CW.seq fun K11 hK11 => ?_
      refine CW.seq_testE 27 (x < mb ∧ lessB y d = true) ?_ ?_
      · refine CW.quiet (fun wq => Ext w2 wq) (by kernel_rfl) (by kernel_rfl) Chg.drew ?_
        refine QL.val (fun wq hq => Y.move rfl) (by decide) ?_   -- t13 := move t5
        refine QL.val (fun wq hq => Y.move rfl) (by decide) ?_   -- t14 := move t3
        refine QL.val (fun wq hq => Y.len_slice Tryd.underlying46 rfl) (by decide) ?_   -- t15 := call len(t14) : 46
        refine QL.val (fun wq hq => Y.lss rfl rfl) (by decide) ?_   -- t16 := binOp lss 3 t13 t15 3
        refine QL.val (fun wq hq => Y.move rfl) (by decide) ?_   -- t17 := move t16
        first | refine QL.casesD (d := 17) rfl (fun hg17 => ?_) (fun hg17 => ?_) | refine QL.casesND (d := 17) rfl (fun hg17 => ?_) (fun hg17 => ?_) | refine QL.cases (d := 17) rfl (fun hg17 => ?_) (fun hg17 => ?_)
        · -- t17 = T
          obtain ⟨b, rfl, hmb1⟩ := (hO.sl digC_length (by decide)).at (hy (by omega))
          refine QL.gval rfl rfl (fun wq hq => Y.move rfl) (by decide) ?_   -- t18 := move t3 [if 4=true]
          refine QL.gval rfl rfl (fun wq hq => Y.move rfl) (by decide) ?_   -- t19 := move t5 [if 4=true]
          refine QL.gval rfl rfl (fun wq hq => Y.indexAddrN Tryd.underlying46 rfl rfl sz0_apiDigest (by omega)) (by decide) ?_   -- t20 := indexAddr 46 t18 t19 [if 4=true]
          refine QL.gval rfl rfl (fun wq hq => Y.load Tryd.underlying28 rfl (hmb1.ext hq) (sz_apiDigest _) rfl) (by decide) ?_   -- t21 := load 28 t20 [if 4=true]
          refine QL.gval rfl rfl (fun wq hq => Y.move rfl) (by decide) ?_   -- t22 := move t0 [if 4=true]
          refine QL.gval rfl rfl (fun wq hq => Y.move rfl) (by decide) ?_   -- t23 := move t4 [if 4=true]
          refine QL.gval rfl rfl (fun wq hq => Y.indexAddrN Tryd.underlying46 rfl rfl sz0_apiDigest (by omega)) (by decide) ?_   -- t24 := indexAddr 46 t22 t23 [if 4=true]
          refine QL.gval rfl rfl (fun wq hq => Y.load Tryd.underlying28 rfl (hma.ext (hE.thenExt hq)) (sz_apiDigest _) rfl) (by decide) ?_   -- t25 := load 28 t24 [if 4=true]
          refine QL.gcall rfl rfl Tryd.func44 rfl rfl rfl (fun wq hq => ret_ext (rLess_any _ _ _) hq) (by decide) ?_   -- t26 := call F44(t21, t25) : 28,28 [if 4=true]
          refine QL.val (fun wq hq => Y.pick rfl rfl) (by decide) ?_   -- t27 := pick t17 t26 c(false)
          refine QL.nil fun wq hq => ⟨⟨_, rfl, ?_⟩, hq, (by repeat (first | exact Fr.le.refl | refine Fr.le.push rfl ?_))⟩
          first | (simp only [*, Bool.not_eq_true', decide_eq_false_iff_not, decide_eq_true_eq, not_true_eq_false, not_false_eq_true, true_and, false_and, and_true, and_false, false_or, or_false, true_or, or_true, iff_true, true_iff, iff_false, false_iff]; done) | (simp_all; done) | (refine congrArg Value.bool (Bool.eq_iff_iff.2 ?_); simp_all; done) | (simp_all; omega)
        · -- t17 = F
          refine QL.goff rfl rfl (by decide) ?_   -- t18 := move t3 [if 4=true]
          refine QL.goff rfl rfl (by decide) ?_   -- t19 := move t5 [if 4=true]
          refine QL.goff rfl rfl (by decide) ?_   -- t20 := indexAddr 46 t18 t19 [if 4=true]
          refine QL.goff rfl rfl (by decide) ?_   -- t21 := load 28 t20 [if 4=true]
          refine QL.goff rfl rfl (by decide) ?_   -- t22 := move t0 [if 4=true]
          refine QL.goff rfl rfl (by decide) ?_   -- t23 := move t4 [if 4=true]
          refine QL.goff rfl rfl (by decide) ?_   -- t24 := indexAddr 46 t22 t23 [if 4=true]
          refine QL.goff rfl rfl (by decide) ?_   -- t25 := load 28 t24 [if 4=true]
          refine QL.goff rfl rfl (by decide) ?_   -- t26 := call F44(t21, t25) : 28,28 [if 4=true]
          refine QL.val (fun wq hq => Y.pick rfl rfl) (by decide) ?_   -- t27 := pick t17 t26 c(false)
          refine QL.nil fun wq hq => ⟨⟨_, rfl, ?_⟩, hq, (by repeat (first | exact Fr.le.refl | refine Fr.le.push rfl ?_))⟩
          first | (simp only [*, Bool.not_eq_true', decide_eq_false_iff_not, decide_eq_true_eq, not_true_eq_false, not_false_eq_true, true_and, false_and, and_true, and_false, false_or, or_false, true_or, or_true, iff_true, true_iff, iff_false, false_iff]; done) | (simp_all; done) | (refine congrArg Value.bool (Bool.eq_iff_iff.2 ?_); simp_all; done) | (simp_all; omega)
      intro w3 hx3; have hz3 := hx3.size; have hE := hE.thenExt hx3
      first | refine CW.condD rfl (fun ht12 => ?_) (fun ht12 => ?_) | refine CW.condND rfl (fun ht12 => ?_) (fun ht12 => ?_) | refine CW.condN rfl (fun ht12 => ?_) (fun ht12 => ?_) | refine CW.cond rfl (fun ht12 => ?_) (fun ht12 => ?_)
      · -- then
        refine CW.skip ?_
        refine hK11 _ _ ?_; try clear hK11 K11
        refine CW.block ?_   -- block 3
        refine CW.region ?_   -- region 7
        refine WL.val (Y.move rfl) (by decide) ?_   -- t28 := move t5
        refine WL.val (Y.add rfl rfl ⟨by omega, by omega⟩) (by decide) ?_   -- t29 := binOp add 3 t28 c(1:i64) 3
        refine WL.val (Y.assign rfl) (by decide) ?_   -- t5 := assign t29
        refine WL.nil ?_
        refine ⟨x + 1, by show mb - (x + 1) < mb - x; omega, (by repeat (first | exact Fr.le.nil | refine Fr.le.cons rfl ?_)), by show x + 1 ≤ mb; omega, ?_, hx12.thenExt hx3⟩
        intro j z hj hz
        by_cases he : j = x
        · subst he; rw [hy (by omega)] at hz; cases hz; exact ht12.2
        · exact hles j z (by omega) hz
      -- else
      have hat : insAt d out = x := insAt_is (by omega) hles fun z hz => by
        have hlt := (List.getElem?_eq_some_iff.1 hz).1
        rw [hy (by omega)] at hz
        cases hz
        cases hc : lessB y d with
        | false => rfl
        | true => exact absurd ⟨by omega, hc⟩ ht12
      refine CW.exit ?_   -- exit 2
      refine hK10 _ _ ?_; try clear hK10 K10
      refine CW.seq_testE 44 (x = mb ∨ y ≠ d) ?_ ?_
      · refine CW.quiet (fun wq => Ext w3 wq) (by kernel_rfl) (by kernel_rfl) Chg.drew ?_
        refine QL.val (fun wq hq => Y.move rfl) (by decide) ?_   -- t30 := move t5
        refine QL.val (fun wq hq => Y.move rfl) (by decide) ?_   -- t31 := move t3
        refine QL.val (fun wq hq => Y.len_slice Tryd.underlying46 rfl) (by decide) ?_   -- t32 := call len(t31) : 46
        refine QL.val (fun wq hq => Y.eql rfl rfl) (by decide) ?_   -- t33 := binOp eql 3 t30 t32 3
        refine QL.val (fun wq hq => Y.move rfl) (by decide) ?_   -- t34 := move t33
        first | refine QL.casesD (d := 34) rfl (fun hg34 => ?_) (fun hg34 => ?_) | refine QL.casesND (d := 34) rfl (fun hg34 => ?_) (fun hg34 => ?_) | refine QL.cases (d := 34) rfl (fun hg34 => ?_) (fun hg34 => ?_)
        · -- t34 = T
          refine QL.goff rfl rfl (by decide) ?_   -- t35 := move t3 [if 4=false]
          refine QL.goff rfl rfl (by decide) ?_   -- t36 := move t5 [if 4=false]
          refine QL.goff rfl rfl (by decide) ?_   -- t37 := indexAddr 46 t35 t36 [if 4=false]
          refine QL.goff rfl rfl (by decide) ?_   -- t38 := load 28 t37 [if 4=false]
          refine QL.goff rfl rfl (by decide) ?_   -- t39 := move t0 [if 4=false]
          refine QL.goff rfl rfl (by decide) ?_   -- t40 := move t4 [if 4=false]
          refine QL.goff rfl rfl (by decide) ?_   -- t41 := indexAddr 46 t39 t40 [if 4=false]
          refine QL.goff rfl rfl (by decide) ?_   -- t42 := load 28 t41 [if 4=false]
          refine QL.goff rfl rfl (by decide) ?_   -- t43 := binOp neq 28 t38 t42 28 [if 4=false]
          refine QL.val (fun wq hq => Y.pick rfl rfl) (by decide) ?_   -- t44 := pick t34 c(true) t43
          refine QL.nil fun wq hq => ⟨⟨_, rfl, ?_⟩, hq, (by repeat (first | exact Fr.le.refl | refine Fr.le.push rfl ?_))⟩
          first | (simp only [*, Bool.not_eq_true', decide_eq_false_iff_not, decide_eq_true_eq, not_true_eq_false, not_false_eq_true, true_and, false_and, and_true, and_false, false_or, or_false, true_or, or_true, iff_true, true_iff, iff_false, false_iff]; done) | (simp_all; done) | (refine congrArg Value.bool (Bool.eq_iff_iff.2 ?_); simp_all; done) | (simp_all; omega)
        · -- t34 = F
          obtain ⟨b, rfl, hmb1⟩ := ((hO.ext hx3).sl digC_length (by decide)).at (hy (by omega))
          refine QL.gval rfl rfl (fun wq hq => Y.move rfl) (by decide) ?_   -- t35 := move t3 [if 4=false]
          refine QL.gval rfl rfl (fun wq hq => Y.move rfl) (by decide) ?_   -- t36 := move t5 [if 4=false]
          refine QL.gval rfl rfl (fun wq hq => Y.indexAddrN Tryd.underlying46 rfl rfl sz0_apiDigest (by omega)) (by decide) ?_   -- t37 := indexAddr 46 t35 t36 [if 4=false]
          refine QL.gval rfl rfl (fun wq hq => Y.load Tryd.underlying28 rfl (hmb1.ext hq) (sz_apiDigest _) rfl) (by decide) ?_   -- t38 := load 28 t37 [if 4=false]
          refine QL.gval rfl rfl (fun wq hq => Y.move rfl) (by decide) ?_   -- t39 := move t0 [if 4=false]
          refine QL.gval rfl rfl (fun wq hq => Y.move rfl) (by decide) ?_   -- t40 := move t4 [if 4=false]
          refine QL.gval rfl rfl (fun wq hq => Y.indexAddrN Tryd.underlying46 rfl rfl sz0_apiDigest (by omega)) (by decide) ?_   -- t41 := indexAddr 46 t39 t40 [if 4=false]
          refine QL.gval rfl rfl (fun wq hq => Y.load Tryd.underlying28 rfl (hma.ext (hE.thenExt hq)) (sz_apiDigest _) rfl) (by decide) ?_   -- t42 := load 28 t41 [if 4=false]
          refine QL.gval rfl rfl (fun wq hq => Y.neq_apiDigest rfl rfl) (by decide) ?_   -- t43 := binOp neq 28 t38 t42 28 [if 4=false]
          refine QL.val (fun wq hq => Y.pick rfl rfl) (by decide) ?_   -- t44 := pick t34 c(true) t43
          refine QL.nil fun wq hq => ⟨⟨_, rfl, ?_⟩, hq, (by repeat (first | exact Fr.le.refl | refine Fr.le.push rfl ?_))⟩
          first | (simp only [*, Bool.not_eq_true', decide_eq_false_iff_not, decide_eq_true_eq, not_true_eq_false, not_false_eq_true, true_and, false_and, and_true, and_false, false_or, or_false, true_or, or_true, iff_true, true_iff, iff_false, false_iff]; done) | (simp_all; done) | (refine congrArg Value.bool (Bool.eq_iff_iff.2 ?_); simp_all; done) | (simp_all; omega)
      intro w4 hx4; have hz4 := hx4.size; have hE := hE.thenExt hx4
      first | refine CW.condD rfl (fun ht13 => ?_) (fun ht13 => ?_) | refine CW.condND rfl (fun ht13 => ?_) (fun ht13 => ?_) | refine CW.condN rfl (fun ht13 => ?_) (fun ht13 => ?_) | refine CW.cond rfl (fun ht13 => ?_) (fun ht13 => ?_)
      · -- then
        refine CW.seq fun K14 hK14 => ?_
        refine CW.region ?_   -- region 9
        refine WL.val (Y.assign rfl) (by decide) ?_   -- t6 := assign c(nilslice)
        refine WL.nil ?_
        refine hK14 _ _ ?_; try clear hK14 K14
        refine CW.seq fun K15 hK15 => ?_
        refine CW.region ?_   -- region 10
        refine WL.val (Y.move rfl) (by decide) ?_   -- t45 := move t6
        refine WL.val (Y.move rfl) (by decide) ?_   -- t46 := move t3
        refine WL.val (Y.move rfl) (by decide) ?_   -- t47 := move t5
        refine WL.val (Y.slice_hi Tryd.underlying46 rfl rfl sz0_apiDigest rfl (by omega)) (by decide) ?_   -- t48 := slice 46 t46 none t47 none
        refine WL.st (St.append Tryd.underlying46 Tryd.underlying46 ai_dig rfl rfl Own.nil ((hO.ext (hx3.thenExt hx4)).srcTake digC_length (by decide) (j := x) (by omega)) (one_flat fun x => one_digC) (by simp; omega)) (by decide) fun v49 w5 hR5 => ?_   -- t49 := call append(t45, t48) : 46,46
        have hn0 : ∀ k, (Value.slice none 0 0).ownBlock = some k → w4.heap.size ≤ k := fun k h => by simp [Value.ownBlock] at h
        obtain ⟨hO5, hc5, hf5⟩ := hR5
        have hz5 := hc5.size
        have hE := hE.step hc5 (fun k h => by have := hn0 k h; omega)
        have hf5 : ∀ k, v49.ownBlock = some k → w4.heap.size ≤ k := by
          rcases hf5 with h | h
          · intro k hk; rw [h] at hk; exact hn0 k hk
          · intro k hk; have := h k hk; omega
        obtain ⟨A5, m5, c5, rfl⟩ := hO5.lens
        have hO := (hO.ext (hx3.thenExt hx4)).chg hc5 (fun k hk h => by have := hlo k hk; have := hn0 k h; omega)
        refine WL.val (Y.assign rfl) (by decide) ?_   -- t6 := assign t49
        refine WL.nil ?_
        refine hK15 _ _ ?_; try clear hK15 K15
        refine CW.seq fun K16 hK16 => ?_
        refine CW.region ?_   -- region 11
        refine WL.val (Y.move rfl) (by decide) ?_   -- t50 := move t6
        refine WL.val (Y.move rfl) (by decide) ?_   -- t51 := move t0
        refine WL.val (Y.move rfl) (by decide) ?_   -- t52 := move t4
        refine WL.val (Y.indexAddrN Tryd.underlying46 rfl rfl sz0_apiDigest (by omega)) (by decide) ?_   -- t53 := indexAddr 46 t51 t52
        refine WL.val (Y.load Tryd.underlying28 rfl (hma.ext hE) (sz_apiDigest _) rfl) (by decide) ?_   -- t54 := load 28 t53
        refine WL.st (St.buildSlice rfl (bs1_dig _)) (by decide) fun v55 w6 hR6 => ?_   -- t55 := buildSlice 46 1 [(0,t54)]
        obtain ⟨g55, rfl, hg55, hB55, hx6⟩ := hR6
        have hz6 := hx6.size
        have hE := hE.thenExt hx6
        refine WL.st (St.append Tryd.underlying46 Tryd.underlying46 ai_dig rfl rfl (hO5.ext hx6) (Src.one hB55 (digC_length _)) one_digC (by rw [List.nil_append, flat_length digC_length, List.length_take]; omega)) (by decide) fun v56 w7 hR7 => ?_   -- t56 := call append(t50, t55) : 46,46
        obtain ⟨hO7, hc7, hf7⟩ := hR7
        have hz7 := hc7.size
        have hE := hE.step hc7 (fun k h => by have := hf5 k h; omega)
        have hf7 : ∀ k, v56.ownBlock = some k → w4.heap.size ≤ k := by
          rcases hf7 with h | h
          · intro k hk; rw [h] at hk; exact hf5 k hk
          · intro k hk; have := h k hk; omega
        obtain ⟨A7, m7, c7, rfl⟩ := hO7.lens
        have hO := (hO.ext hx6).chg hc7 (fun k hk h => by have := hlo k hk; have := hf5 k h; omega)
        refine WL.val (Y.assign rfl) (by decide) ?_   -- t6 := assign t56
        refine WL.nil ?_
        refine hK16 _ _ ?_; try clear hK16 K16
        refine CW.region ?_   -- region 12
        refine WL.val (Y.move rfl) (by decide) ?_   -- t57 := move t6
        refine WL.val (Y.move rfl) (by decide) ?_   -- t58 := move t3
        refine WL.val (Y.move rfl) (by decide) ?_   -- t59 := move t5
        refine WL.val (Y.slice_lo Tryd.underlying46 rfl rfl sz0_apiDigest rfl (by omega)) (by decide) ?_   -- t60 := slice 46 t58 t59 none none
        refine WL.st (St.append Tryd.underlying46 Tryd.underlying46 ai_dig rfl rfl hO7 (hO.srcDrop digC_length (by decide) (j := x) (by omega)) (one_flat fun x => one_digC) (by rw [List.length_append, List.nil_append, flat_length digC_length, List.length_take, digC_length]; omega)) (by decide) fun v61 w8 hR8 => ?_   -- t61 := call append(t57, t60) : 46,46
        obtain ⟨hO8, hc8, hf8⟩ := hR8
        have hz8 := hc8.size
        have hE := hE.step hc8 (fun k h => by have := hf7 k h; omega)
        have hf8 : ∀ k, v61.ownBlock = some k → w4.heap.size ≤ k := by
          rcases hf8 with h | h
          · intro k hk; rw [h] at hk; exact hf7 k hk
          · intro k hk; have := h k hk; omega
        obtain ⟨A8, m8, c8, rfl⟩ := hO8.lens
        refine WL.val (Y.assign rfl) (by decide) ?_   -- t3 := assign t61
        refine WL.nil ?_
        refine ⟨.slice A8 m8 c8, (by repeat (first | exact Fr.le.nil | refine Fr.le.cons rfl ?_)), ?_, fun k hk => by have := hf8 k hk; omega, hE⟩
        rw [insD, hat, if_neg (by
          intro h
          have hlt := (List.getElem?_eq_some_iff.1 h).1
          rcases ht13 with h3 | h3
          · omega
          · rw [hy (by omega)] at h; cases h; exact h3 rfl)]
        simpa [flatD] using hO8
      -- else
      refine CW.skip ?_
      obtain ⟨h1, h2⟩ := not_or.1 ht13
      have h3 : y = d := Classical.not_not.1 h2
      refine ⟨.slice B mb cb, (by repeat (first | exact Fr.le.nil | refine Fr.le.cons rfl ?_)), ?_, fun k hk => by have := hfu k hk; omega, hE⟩
      rw [insD, hat, if_pos (by rw [hy (by omega), h3])]
      exact hO.ext (hx3.thenExt hx4)
    rintro u w9 hj9
    obtain ⟨hO, hfu, hE⟩ := hj9
    refine CW.region ?_   -- region 4
    refine WL.val (Y.move rfl) (by decide) ?_   -- t11 := move t4
    refine WL.val (Y.add rfl rfl ⟨by omega, by omega⟩) (by decide) ?_   -- t12 := binOp add 3 t11 c(1:i64) 3
    refine WL.val (Y.assign rfl) (by decide) ?_   -- t4 := assign t12
    refine WL.nil ?_
    refine ⟨(i + 1, u), by show m - (i + 1) < m - i; omega, (by repeat (first | exact Fr.le.nil | refine Fr.le.cons rfl ?_)), by show i + 1 ≤ m; omega, ?_, hfu, hE⟩
    show Own _ _ _ _ (flatD (srtD (l.take (i + 1))))
    rw [srtD_take hd, ← hout]
    exact hO
  -- else
  refine CW.exit ?_   -- exit 0
  refine hK3 _ _ ?_; try clear hK3 K3
  refine CW.seq fun K17 hK17 => ?_
  refine CW.region ?_   -- region 13
  refine WL.val (Y.move rfl) (by decide) ?_   -- t62 := move t3
  refine WL.val (Y.assign rfl) (by decide) ?_   -- t2 := assign t62
  refine WL.nil ?_
  refine hK17 _ _ ?_; try clear hK17 K17
  refine CW.ret ⟨_, rfl, ?_⟩
  refine ⟨?_, hfu, hE⟩
  rw [hout, List.take_of_length_le (by omega)] at hO
  exact hO
end Go.Proofs.YtkbmlnkoejlgmaaDoor
