/- Several texts as one: Sd, Sf, Sg, Sh, Sx. -/
import Derived.Test.YtoncdfpohdchgaaDoorKg
import Derived.Test.YtoncdfpohdchgaaDoorLo
import Derived.Test.YtoncdfpohdchgaaDoorNm
import Derived.Shelf.SlSortCmp.NoneTotal
import Derived.Test.YtoncdfpohdchgaaDoorProg
set_option linter.unusedSimpArgs false
set_option linter.unusedVariables false
/- Lists of digests: slices.Index, slices.Contains, the reference's Sorted, walked; the plain law of sorting. No condition. -/
namespace Go.Pl
open Go.Fw
/-- The reference's insertion. -/
def insAt (d : Dig) : List Dig → Nat
  | [] => 0
  | x :: r => if lessB x d = true then insAt d r + 1 else 0
def insD (out : List Dig) (d : Dig) : List Dig := if out[insAt d out]? = some d then out else out.take (insAt d out) ++ d :: out.drop (insAt d out)
def srtD (l : List Dig) : List Dig := l.foldl insD []
theorem insAt_le (d : Dig) : ∀ out, insAt d out ≤ out.length
  | [] => Nat.le_refl _
  | x :: r => by
    rw [insAt]
    split
    · have := insAt_le d r; simp only [List.length_cons]; omega
    · exact Nat.zero_le _
theorem insAt_less (d : Dig) : ∀ (out : List Dig) (k : Nat) (x : Dig), k < insAt d out → out[k]? = some x → lessB x d = true
  | [], k, x, h, _ => by simp [insAt] at h
  | y :: r, k, x, h, hx => by
    rw [insAt] at h
    split at h
    · rename_i hy
      cases k with
      | zero => simp at hx; subst hx; exact hy
      | succ k => exact insAt_less d r k x (by omega) (by simpa using hx)
    · omega
theorem insAt_stop (d : Dig) : ∀ (out : List Dig) (x : Dig), out[insAt d out]? = some x → lessB x d = false
  | [], x, h => by simp at h
  | y :: r, x, h => by
    rw [insAt] at h
    split at h
    · exact insAt_stop d r x (by simpa using h)
    · rename_i hy
      simp at h; subst h
      simpa using hy
theorem insAt_is {d : Dig} : ∀ {out : List Dig} {k : Nat}, k ≤ out.length → (∀ j x, j < k → out[j]? = some x → lessB x d = true) → (∀ x, out[k]? = some x → lessB x d = false) → insAt d out = k
  | [], k, hk, _, _ => by simp at hk; subst hk; rfl
  | y :: r, 0, _, _, h2 => by rw [insAt, if_neg (by rw [h2 y rfl]; decide)]
  | y :: r, k + 1, hk, h1, h2 => by
    rw [insAt, if_pos (h1 0 y (by omega) rfl), insAt_is (by simpa using hk) (fun j x hj hx => h1 (j + 1) x (by omega) (by simpa using hx)) (fun x hx => h2 x (by simpa using hx))]
theorem insD_len (out : List Dig) (d : Dig) : (insD out d).length ≤ out.length + 1 := by
  unfold insD
  split
  · omega
  · have := insAt_le d out
    rw [List.length_append, List.length_cons, List.length_take, List.length_drop]; omega
theorem foldl_len (l : List Dig) : ∀ out : List Dig, (l.foldl insD out).length ≤ out.length + l.length := by
  induction l with
  | nil => intro out; simp
  | cons d l ih =>
    intro out
    have h1 := ih (insD out d)
    have h2 := insD_len out d
    simp only [List.foldl_cons, List.length_cons]; omega
theorem srtD_take {l : List Dig} {i : Nat} {d : Dig} (h : l[i]? = some d) : srtD (l.take (i + 1)) = insD (srtD (l.take i)) d := by
  rw [take_succ h, srtD, List.foldl_append]; rfl
end Go.Pl
namespace Go.Fw
open Go.RowKit
theorem Sl.at {α : Type} {w : World} {enc : α → List Value} {k : Nat} {A : Option Addr} {m c : Nat} {xs : List α} (h : Sl w enc k (.slice A m c) xs) {i : Nat} {x : α} (hx : xs[i]? = some x) : ∃ a, A = some a ∧ Mem w (a.add (i * k)) (enc x) := by
  obtain ⟨A', m', c', e, _, _, _, hls⟩ := h
  injection e with e1
  subst e1
  exact hls i x hx
end Go.Fw
namespace Go.Proofs.YtoncdfpohdchgaaDoor
open Go.RowKit Go.Fw Go.Pl
abbrev TDg : TypeId := 31

set_option maxRecDepth 20000 in
theorem sorted_any (u : Value) (l : List Dig) (w : World) (hu : Sl w digC 32 u l) (hp : l.length * 32 ≤ 140737488351232) : Calls Tryd.prog 13 #[u] w (Ret fun v w' => Own w' TDg 32 v (flatD (srtD l)) ∧ (∀ k, v.ownBlock = some k → w.heap.size ≤ k) ∧ Ext w w') := by
  have hl := hu
  obtain ⟨A, m, c, rfl, hm, hmc, hcm, _⟩ := hu
  unfold maxLen at hcm
  refine calls_of_CW 63 [2] [(0, .slice A m c)] Tryd.func13 rfl rfl rfl (by simp) args1 ?_
  have hE : Ext w w := Chg.refl
  refine CW.seq fun K1 hK1 => ?_
  refine CW.region ?_   -- region 0
  refine WL.val (Y.assign rfl) (by decide) ?_   -- t2 := assign c(nilslice)
  refine WL.nil ?_
  refine hK1 _ _ ?_; try clear hK1 K1
  refine CW.seq fun K2 hK2 => ?_
  refine CW.region ?_   -- region 1
  refine WL.val (Y.assign rfl) (by decide) ?_   -- t3 := assign c(nilslice)
  refine WL.nil ?_
  refine hK2 _ _ ?_; try clear hK2 K2
  refine CW.seq fun K3 hK3 => ?_
  refine CW.seq fun K4 hK4 => ?_
  refine CW.region ?_   -- region 2
  refine WL.val (Y.assign rfl) (by decide) ?_   -- t4 := assign c(0:i64)
  refine WL.nil ?_
  refine hK4 _ _ ?_; try clear hK4 K4
  refine CW.block ?_   -- block 0
  refine CW.loop (X := Nat × Value) (fun x => [(0, .slice A m c), (3, x.2), (4, .int .i64 (x.1 : Int))]) (fun x w0 => x.1 ≤ m ∧ Own w0 TDg 32 x.2 (flatD (srtD (l.take x.1))) ∧ (∀ k, x.2.ownBlock = some k → w.heap.size ≤ k) ∧ Ext w w0) (fun x => m - x.1) (0, .slice none 0 0) (by repeat (first | exact Fr.le.nil | refine Fr.le.cons rfl ?_)) ⟨Nat.zero_le _, Own.nil, (fun k h => by simp [Value.ownBlock] at h), hE⟩ ?_
  intro x w1 hl1
  obtain ⟨i, u⟩ := x
  dsimp only at hl1 ⊢
  obtain ⟨hi, hO, hfu, hE⟩ := hl1
  obtain ⟨B, mb, cb, rfl⟩ := hO.lens
  obtain ⟨hlen, hmb, hcb⟩ := hO.len digC_length (by decide)
  have hmi : mb ≤ i := by have := foldl_len (l.take i) []; rw [List.length_take, List.length_nil] at this; unfold srtD at hlen; omega
  have hz1 := hE.size
  obtain ⟨out, hout⟩ : ∃ out, out = srtD (l.take i) := ⟨_, rfl⟩
  rw [← hout] at hO hlen
  refine CW.seq fun K5 hK5 => ?_
  refine CW.seq fun K6 hK6 => ?_
  refine CW.region ?_   -- region 3
  refine WL.val (Y.move rfl) (by decide) ?_   -- t7 := move t4
  refine WL.val (Y.move rfl) (by decide) ?_   -- t8 := move t0
  refine WL.val (Y.len_slice Tryd.underlying29 rfl) (by decide) ?_   -- t9 := call len(t8) : 29
  refine WL.val (Y.lss rfl rfl) (by decide) ?_   -- t10 := binOp lss 3 t7 t9 3
  refine WL.nil ?_
  refine hK6 _ _ ?_; try clear hK6 K6
  first | refine CW.condD rfl (fun ht7 => ?_) (fun ht7 => ?_) | refine CW.condND rfl (fun ht7 => ?_) (fun ht7 => ?_) | refine CW.condN rfl (fun ht7 => ?_) (fun ht7 => ?_) | refine CW.cond rfl (fun ht7 => ?_) (fun ht7 => ?_)
  · -- then
    refine CW.skip ?_
    refine hK5 _ _ ?_; try clear hK5 K5
    obtain ⟨d, hd⟩ : ∃ d, l[i]? = some d := ⟨_, List.getElem?_eq_getElem (by omega)⟩
    obtain ⟨a, rfl, hma⟩ := hl.at hd
    refine CW.seq_to (X := Value) (fun u => [(0, .slice (some a) m c), (3, u), (4, .int .i64 (i : Int))]) (fun u w0 => Own w0 TDg 32 u (flatD (insD out d)) ∧ (∀ k, u.ownBlock = some k → w.heap.size ≤ k) ∧ Ext w w0) ?_ ?_
    · skip
      refine CW.block ?_   -- block 1
      refine CW.seq fun K9 hK9 => ?_
      refine CW.region ?_   -- region 5
      refine WL.val (Y.assign rfl) (by decide) ?_   -- t5 := assign c(0:i64)
      refine WL.nil ?_
      refine hK9 _ _ ?_; try clear hK9 K9
      refine CW.seq fun K10 hK10 => ?_
      refine CW.block ?_   -- block 2
      refine CW.loop (X := Nat) (fun x => [(0, .slice (some a) m c), (3, .slice B mb cb), (4, .int .i64 (i : Int)), (5, .int .i64 (x : Int))]) (fun x w0 => x ≤ mb ∧ (∀ j y, j < x → out[j]? = some y → lessB y d = true) ∧ Ext w1 w0) (fun x => mb - x) 0 (by repeat (first | exact Fr.le.nil | refine Fr.le.cons rfl ?_)) ⟨Nat.zero_le _, (fun j y h => absurd h (by omega)), Chg.refl⟩ ?_
      intro x w2 hl2
      obtain ⟨hxm, hles, hx12⟩ := hl2
      have hE := hE.thenExt hx12
      have hz2 := hx12.size
      have hO := hO.ext hx12
      have hlo := hO.lt
      obtain ⟨y, hy⟩ : ∃ y : Dig, x < mb → out[x]? = some y := by
        by_cases h : x < mb
        · exact ⟨_, fun _ => List.getElem?_eq_getElem (by rw [hlen]; exact h)⟩
        · exact ⟨d, fun h' => absurd h' h⟩
      refine CW.seq fun K11 hK11 => ?_
      refine CW.seq_testE 27 (x < mb ∧ lessB y d = true) ?_ ?_
      · refine CW.quiet (fun wq => Ext w2 wq) (by kernel_rfl) (by kernel_rfl) Chg.drew ?_
        refine QL.val (fun wq hq => Y.move rfl) (by decide) ?_   -- t13 := move t5
        refine QL.val (fun wq hq => Y.move rfl) (by decide) ?_   -- t14 := move t3
        refine QL.val (fun wq hq => Y.len_slice Tryd.underlying29 rfl) (by decide) ?_   -- t15 := call len(t14) : 29
        refine QL.val (fun wq hq => Y.lss rfl rfl) (by decide) ?_   -- t16 := binOp lss 3 t13 t15 3
        refine QL.val (fun wq hq => Y.move rfl) (by decide) ?_   -- t17 := move t16
        first | refine QL.casesD (d := 17) rfl (fun hg17 => ?_) (fun hg17 => ?_) | refine QL.casesND (d := 17) rfl (fun hg17 => ?_) (fun hg17 => ?_) | refine QL.cases (d := 17) rfl (fun hg17 => ?_) (fun hg17 => ?_)
        · -- t17 = T
          obtain ⟨b, rfl, hmb1⟩ := (hO.sl digC_length (by decide)).at (hy (by omega))
          refine QL.gval rfl rfl (fun wq hq => Y.move rfl) (by decide) ?_   -- t18 := move t3 [if 4=true]
          refine QL.gval rfl rfl (fun wq hq => Y.move rfl) (by decide) ?_   -- t19 := move t5 [if 4=true]
          refine QL.gval rfl rfl (fun wq hq => Y.indexAddrN Tryd.underlying29 rfl rfl sz0_apiDigest (by omega)) (by decide) ?_   -- t20 := indexAddr 29 t18 t19 [if 4=true]
          refine QL.gval rfl rfl (fun wq hq => Y.load Tryd.underlying31 rfl (hmb1.ext hq) (sz_apiDigest _) rfl) (by decide) ?_   -- t21 := load 31 t20 [if 4=true]
          refine QL.gval rfl rfl (fun wq hq => Y.move rfl) (by decide) ?_   -- t22 := move t0 [if 4=true]
          refine QL.gval rfl rfl (fun wq hq => Y.move rfl) (by decide) ?_   -- t23 := move t4 [if 4=true]
          refine QL.gval rfl rfl (fun wq hq => Y.indexAddrN Tryd.underlying29 rfl rfl sz0_apiDigest (by omega)) (by decide) ?_   -- t24 := indexAddr 29 t22 t23 [if 4=true]
          refine QL.gval rfl rfl (fun wq hq => Y.load Tryd.underlying31 rfl (hma.ext (hE.thenExt hq)) (sz_apiDigest _) rfl) (by decide) ?_   -- t25 := load 31 t24 [if 4=true]
          refine QL.gcall rfl rfl Tryd.func34 rfl rfl rfl (fun wq hq => ret_ext (rLess_any _ _ _) hq) (by decide) ?_   -- t26 := call F34(t21, t25) : 31,31 [if 4=true]
          refine QL.val (fun wq hq => Y.pick rfl rfl) (by decide) ?_   -- t27 := pick t17 t26 c(false)
          refine QL.nil fun wq hq => ⟨⟨_, rfl, ?_⟩, hq, (by repeat (first | exact Fr.le.refl | refine Fr.le.push rfl ?_))⟩
          first | (simp only [*, Int.natCast_inj, Bool.not_eq_true', decide_eq_false_iff_not, decide_eq_true_eq, not_true_eq_false, not_false_eq_true, true_and, false_and, and_true, and_false, false_or, or_false, true_or, or_true, iff_true, true_iff, iff_false, false_iff]; done) | (simp_all; done) | (refine congrArg Value.bool (Bool.eq_iff_iff.2 ?_); simp_all; done) | (simp_all; omega)
        · -- t17 = F
          refine QL.goff rfl rfl (by decide) ?_   -- t18 := move t3 [if 4=true]
          refine QL.goff rfl rfl (by decide) ?_   -- t19 := move t5 [if 4=true]
          refine QL.goff rfl rfl (by decide) ?_   -- t20 := indexAddr 29 t18 t19 [if 4=true]
          refine QL.goff rfl rfl (by decide) ?_   -- t21 := load 31 t20 [if 4=true]
          refine QL.goff rfl rfl (by decide) ?_   -- t22 := move t0 [if 4=true]
          refine QL.goff rfl rfl (by decide) ?_   -- t23 := move t4 [if 4=true]
          refine QL.goff rfl rfl (by decide) ?_   -- t24 := indexAddr 29 t22 t23 [if 4=true]
          refine QL.goff rfl rfl (by decide) ?_   -- t25 := load 31 t24 [if 4=true]
          refine QL.goff rfl rfl (by decide) ?_   -- t26 := call F34(t21, t25) : 31,31 [if 4=true]
          refine QL.val (fun wq hq => Y.pick rfl rfl) (by decide) ?_   -- t27 := pick t17 t26 c(false)
          refine QL.nil fun wq hq => ⟨⟨_, rfl, ?_⟩, hq, (by repeat (first | exact Fr.le.refl | refine Fr.le.push rfl ?_))⟩
          first | (simp only [*, Int.natCast_inj, Bool.not_eq_true', decide_eq_false_iff_not, decide_eq_true_eq, not_true_eq_false, not_false_eq_true, true_and, false_and, and_true, and_false, false_or, or_false, true_or, or_true, iff_true, true_iff, iff_false, false_iff]; done) | (simp_all; done) | (refine congrArg Value.bool (Bool.eq_iff_iff.2 ?_); simp_all; done) | (simp_all; omega)
      intro w3 hx3; have hz3 := hx3.size; have hE := hE.thenExt hx3
      first | refine CW.condD rfl (fun ht12 => ?_) (fun ht12 => ?_) | refine CW.condND rfl (fun ht12 => ?_) (fun ht12 => ?_) | refine CW.condN rfl (fun ht12 => ?_) (fun ht12 => ?_) | refine CW.cond rfl (fun ht12 => ?_) (fun ht12 => ?_)
      · -- then
        refine CW.skip ?_
        refine hK11 _ _ ?_; try clear hK11 K11
        refine CW.block ?_   -- block 3
        refine CW.region ?_   -- region 7
        refine WL.val (Y.move rfl) (by decide) ?_   -- t28 := move t5
        refine WL.val (Y.add rfl rfl ⟨by omega, by omega⟩) (by decide) ?_   -- t29 := binOp add 3 t28 c(1:i64) 3
        refine WL.val (Y.assign rfl) (by decide) ?_   -- t5 := assign t29
        refine WL.nil ?_
        refine ⟨x + 1, by show mb - (x + 1) < mb - x; omega, (by repeat (first | exact Fr.le.nil | refine Fr.le.cons rfl ?_)), by show x + 1 ≤ mb; omega, ?_, hx12.thenExt hx3⟩
        intro j z hj hz
        by_cases he : j = x
        · subst he; rw [hy (by omega)] at hz; cases hz; exact ht12.2
        · exact hles j z (by omega) hz
      -- else
      have hat : insAt d out = x := insAt_is (by omega) hles fun z hz => by
        have hlt := (List.getElem?_eq_some_iff.1 hz).1
        rw [hy (by omega)] at hz
        cases hz
        cases hc : lessB y d with
        | false => rfl
        | true => exact absurd ⟨by omega, hc⟩ ht12
      refine CW.exit ?_   -- exit 2
      refine hK10 _ _ ?_; try clear hK10 K10
      refine CW.seq_testE 44 (x = mb ∨ y ≠ d) ?_ ?_
      · refine CW.quiet (fun wq => Ext w3 wq) (by kernel_rfl) (by kernel_rfl) Chg.drew ?_
        refine QL.val (fun wq hq => Y.move rfl) (by decide) ?_   -- t30 := move t5
        refine QL.val (fun wq hq => Y.move rfl) (by decide) ?_   -- t31 := move t3
        refine QL.val (fun wq hq => Y.len_slice Tryd.underlying29 rfl) (by decide) ?_   -- t32 := call len(t31) : 29
        refine QL.val (fun wq hq => Y.eql rfl rfl) (by decide) ?_   -- t33 := binOp eql 3 t30 t32 3
        refine QL.val (fun wq hq => Y.move rfl) (by decide) ?_   -- t34 := move t33
        first | refine QL.casesD (d := 34) rfl (fun hg34 => ?_) (fun hg34 => ?_) | refine QL.casesND (d := 34) rfl (fun hg34 => ?_) (fun hg34 => ?_) | refine QL.cases (d := 34) rfl (fun hg34 => ?_) (fun hg34 => ?_)
        · -- t34 = T
          refine QL.goff rfl rfl (by decide) ?_   -- t35 := move t3 [if 4=false]
          refine QL.goff rfl rfl (by decide) ?_   -- t36 := move t5 [if 4=false]
          refine QL.goff rfl rfl (by decide) ?_   -- t37 := indexAddr 29 t35 t36 [if 4=false]
          refine QL.goff rfl rfl (by decide) ?_   -- t38 := load 31 t37 [if 4=false]
          refine QL.goff rfl rfl (by decide) ?_   -- t39 := move t0 [if 4=false]
          refine QL.goff rfl rfl (by decide) ?_   -- t40 := move t4 [if 4=false]
          refine QL.goff rfl rfl (by decide) ?_   -- t41 := indexAddr 29 t39 t40 [if 4=false]
          refine QL.goff rfl rfl (by decide) ?_   -- t42 := load 31 t41 [if 4=false]
          refine QL.goff rfl rfl (by decide) ?_   -- t43 := binOp neq 31 t38 t42 31 [if 4=false]
          refine QL.val (fun wq hq => Y.pick rfl rfl) (by decide) ?_   -- t44 := pick t34 c(true) t43
          refine QL.nil fun wq hq => ⟨⟨_, rfl, ?_⟩, hq, (by repeat (first | exact Fr.le.refl | refine Fr.le.push rfl ?_))⟩
          first | (simp only [*, Int.natCast_inj, Bool.not_eq_true', decide_eq_false_iff_not, decide_eq_true_eq, not_true_eq_false, not_false_eq_true, true_and, false_and, and_true, and_false, false_or, or_false, true_or, or_true, iff_true, true_iff, iff_false, false_iff]; done) | (simp_all; done) | (refine congrArg Value.bool (Bool.eq_iff_iff.2 ?_); simp_all; done) | (simp_all; omega)
        · -- t34 = F
          obtain ⟨b, rfl, hmb1⟩ := ((hO.ext hx3).sl digC_length (by decide)).at (hy (by omega))
          refine QL.gval rfl rfl (fun wq hq => Y.move rfl) (by decide) ?_   -- t35 := move t3 [if 4=false]
          refine QL.gval rfl rfl (fun wq hq => Y.move rfl) (by decide) ?_   -- t36 := move t5 [if 4=false]
          refine QL.gval rfl rfl (fun wq hq => Y.indexAddrN Tryd.underlying29 rfl rfl sz0_apiDigest (by omega)) (by decide) ?_   -- t37 := indexAddr 29 t35 t36 [if 4=false]
          refine QL.gval rfl rfl (fun wq hq => Y.load Tryd.underlying31 rfl (hmb1.ext hq) (sz_apiDigest _) rfl) (by decide) ?_   -- t38 := load 31 t37 [if 4=false]
          refine QL.gval rfl rfl (fun wq hq => Y.move rfl) (by decide) ?_   -- t39 := move t0 [if 4=false]
          refine QL.gval rfl rfl (fun wq hq => Y.move rfl) (by decide) ?_   -- t40 := move t4 [if 4=false]
          refine QL.gval rfl rfl (fun wq hq => Y.indexAddrN Tryd.underlying29 rfl rfl sz0_apiDigest (by omega)) (by decide) ?_   -- t41 := indexAddr 29 t39 t40 [if 4=false]
          refine QL.gval rfl rfl (fun wq hq => Y.load Tryd.underlying31 rfl (hma.ext (hE.thenExt hq)) (sz_apiDigest _) rfl) (by decide) ?_   -- t42 := load 31 t41 [if 4=false]
          refine QL.gval rfl rfl (fun wq hq => Y.neq_apiDigest rfl rfl) (by decide) ?_   -- t43 := binOp neq 31 t38 t42 31 [if 4=false]
          refine QL.val (fun wq hq => Y.pick rfl rfl) (by decide) ?_   -- t44 := pick t34 c(true) t43
          refine QL.nil fun wq hq => ⟨⟨_, rfl, ?_⟩, hq, (by repeat (first | exact Fr.le.refl | refine Fr.le.push rfl ?_))⟩
          first | (simp only [*, Int.natCast_inj, Bool.not_eq_true', decide_eq_false_iff_not, decide_eq_true_eq, not_true_eq_false, not_false_eq_true, true_and, false_and, and_true, and_false, false_or, or_false, true_or, or_true, iff_true, true_iff, iff_false, false_iff]; done) | (simp_all; done) | (refine congrArg Value.bool (Bool.eq_iff_iff.2 ?_); simp_all; done) | (simp_all; omega)
      intro w4 hx4; have hz4 := hx4.size; have hE := hE.thenExt hx4
      first | refine CW.condD rfl (fun ht13 => ?_) (fun ht13 => ?_) | refine CW.condND rfl (fun ht13 => ?_) (fun ht13 => ?_) | refine CW.condN rfl (fun ht13 => ?_) (fun ht13 => ?_) | refine CW.cond rfl (fun ht13 => ?_) (fun ht13 => ?_)
      · -- then
        refine CW.seq fun K14 hK14 => ?_
        refine CW.region ?_   -- region 9
        refine WL.val (Y.assign rfl) (by decide) ?_   -- t6 := assign c(nilslice)
        refine WL.nil ?_
        refine hK14 _ _ ?_; try clear hK14 K14
        refine CW.seq fun K15 hK15 => ?_
        refine CW.region ?_   -- region 10
        refine WL.val (Y.move rfl) (by decide) ?_   -- t45 := move t6
        refine WL.val (Y.move rfl) (by decide) ?_   -- t46 := move t3
        refine WL.val (Y.move rfl) (by decide) ?_   -- t47 := move t5
        refine WL.val (Y.slice_hi Tryd.underlying29 rfl rfl sz0_apiDigest rfl (by omega)) (by decide) ?_   -- t48 := slice 29 t46 none t47 none
        refine WL.st (St.append Tryd.underlying29 Tryd.underlying29 ai_dig rfl rfl Own.nil ((hO.ext (hx3.thenExt hx4)).srcTake digC_length (by decide) (j := x) (by omega)) (one_flat fun x => one_digC) (by simp; omega)) (by decide) fun v49 w5 hR5 => ?_   -- t49 := call append(t45, t48) : 29,29
        have hn0 : ∀ k, (Value.slice none 0 0).ownBlock = some k → w4.heap.size ≤ k := fun k h => by simp [Value.ownBlock] at h
        obtain ⟨hO5, hc5, hf5⟩ := hR5
        have hz5 := hc5.size
        have hE := hE.step hc5 (fun k h => by have := hn0 k h; omega)
        have hf5 : ∀ k, v49.ownBlock = some k → w4.heap.size ≤ k := by
          rcases hf5 with h | h
          · intro k hk; rw [h] at hk; exact hn0 k hk
          · intro k hk; have := h k hk; omega
        obtain ⟨A5, m5, c5, rfl⟩ := hO5.lens
        have hO := (hO.ext (hx3.thenExt hx4)).chg hc5 (fun k hk h => by have := hlo k hk; have := hn0 k h; omega)
        refine WL.val (Y.assign rfl) (by decide) ?_   -- t6 := assign t49
        refine WL.nil ?_
        refine hK15 _ _ ?_; try clear hK15 K15
        refine CW.seq fun K16 hK16 => ?_
        refine CW.region ?_   -- region 11
        refine WL.val (Y.move rfl) (by decide) ?_   -- t50 := move t6
        refine WL.val (Y.move rfl) (by decide) ?_   -- t51 := move t0
        refine WL.val (Y.move rfl) (by decide) ?_   -- t52 := move t4
        refine WL.val (Y.indexAddrN Tryd.underlying29 rfl rfl sz0_apiDigest (by omega)) (by decide) ?_   -- t53 := indexAddr 29 t51 t52
        refine WL.val (Y.load Tryd.underlying31 rfl (hma.ext hE) (sz_apiDigest _) rfl) (by decide) ?_   -- t54 := load 31 t53
        refine WL.st (St.buildSlice rfl (bs1_dig _)) (by decide) fun v55 w6 hR6 => ?_   -- t55 := buildSlice 29 1 [(0,t54)]
        obtain ⟨g55, rfl, hg55, hB55, hx6⟩ := hR6
        have hz6 := hx6.size
        have hE := hE.thenExt hx6
        refine WL.st (St.append Tryd.underlying29 Tryd.underlying29 ai_dig rfl rfl (hO5.ext hx6) (Src.one hB55 (digC_length _)) one_digC (by rw [List.nil_append, flat_length digC_length, List.length_take]; omega)) (by decide) fun v56 w7 hR7 => ?_   -- t56 := call append(t50, t55) : 29,29
        obtain ⟨hO7, hc7, hf7⟩ := hR7
        have hz7 := hc7.size
        have hE := hE.step hc7 (fun k h => by have := hf5 k h; omega)
        have hf7 : ∀ k, v56.ownBlock = some k → w4.heap.size ≤ k := by
          rcases hf7 with h | h
          · intro k hk; rw [h] at hk; exact hf5 k hk
          · intro k hk; have := h k hk; omega
        obtain ⟨A7, m7, c7, rfl⟩ := hO7.lens
        have hO := (hO.ext hx6).chg hc7 (fun k hk h => by have := hlo k hk; have := hf5 k h; omega)
        refine WL.val (Y.assign rfl) (by decide) ?_   -- t6 := assign t56
        refine WL.nil ?_
        refine hK16 _ _ ?_; try clear hK16 K16
        refine CW.region ?_   -- region 12
        refine WL.val (Y.move rfl) (by decide) ?_   -- t57 := move t6
        refine WL.val (Y.move rfl) (by decide) ?_   -- t58 := move t3
        refine WL.val (Y.move rfl) (by decide) ?_   -- t59 := move t5
        refine WL.val (Y.slice_lo Tryd.underlying29 rfl rfl sz0_apiDigest rfl (by omega)) (by decide) ?_   -- t60 := slice 29 t58 t59 none none
        refine WL.st (St.append Tryd.underlying29 Tryd.underlying29 ai_dig rfl rfl hO7 (hO.srcDrop digC_length (by decide) (j := x) (by omega)) (one_flat fun x => one_digC) (by rw [List.length_append, List.nil_append, flat_length digC_length, List.length_take, digC_length]; omega)) (by decide) fun v61 w8 hR8 => ?_   -- t61 := call append(t57, t60) : 29,29
        obtain ⟨hO8, hc8, hf8⟩ := hR8
        have hz8 := hc8.size
        have hE := hE.step hc8 (fun k h => by have := hf7 k h; omega)
        have hf8 : ∀ k, v61.ownBlock = some k → w4.heap.size ≤ k := by
          rcases hf8 with h | h
          · intro k hk; rw [h] at hk; exact hf7 k hk
          · intro k hk; have := h k hk; omega
        obtain ⟨A8, m8, c8, rfl⟩ := hO8.lens
        refine WL.val (Y.assign rfl) (by decide) ?_   -- t3 := assign t61
        refine WL.nil ?_
        refine ⟨.slice A8 m8 c8, (by repeat (first | exact Fr.le.nil | refine Fr.le.cons rfl ?_)), ?_, fun k hk => by have := hf8 k hk; omega, hE⟩
        rw [insD, hat, if_neg (by
          intro h
          have hlt := (List.getElem?_eq_some_iff.1 h).1
          rcases ht13 with h3 | h3
          · omega
          · rw [hy (by omega)] at h; cases h; exact h3 rfl)]
        simpa [flatD] using hO8
      -- else
      refine CW.skip ?_
      obtain ⟨h1, h2⟩ := not_or.1 ht13
      have h3 : y = d := Classical.not_not.1 h2
      refine ⟨.slice B mb cb, (by repeat (first | exact Fr.le.nil | refine Fr.le.cons rfl ?_)), ?_, fun k hk => by have := hfu k hk; omega, hE⟩
      rw [insD, hat, if_pos (by rw [hy (by omega), h3])]
      exact hO.ext (hx3.thenExt hx4)
    rintro u w9 hj9
    obtain ⟨hO, hfu, hE⟩ := hj9
    refine CW.region ?_   -- region 4
    refine WL.val (Y.move rfl) (by decide) ?_   -- t11 := move t4
    refine WL.val (Y.add rfl rfl ⟨by omega, by omega⟩) (by decide) ?_   -- t12 := binOp add 3 t11 c(1:i64) 3
    refine WL.val (Y.assign rfl) (by decide) ?_   -- t4 := assign t12
    refine WL.nil ?_
    refine ⟨(i + 1, u), by show m - (i + 1) < m - i; omega, (by repeat (first | exact Fr.le.nil | refine Fr.le.cons rfl ?_)), by show i + 1 ≤ m; omega, ?_, hfu, hE⟩
    show Own _ _ _ _ (flatD (srtD (l.take (i + 1))))
    rw [srtD_take hd, ← hout]
    exact hO
  -- else
  refine CW.exit ?_   -- exit 0
  refine hK3 _ _ ?_; try clear hK3 K3
  refine CW.seq fun K17 hK17 => ?_
  refine CW.region ?_   -- region 13
  refine WL.val (Y.move rfl) (by decide) ?_   -- t62 := move t3
  refine WL.val (Y.assign rfl) (by decide) ?_   -- t2 := assign t62
  refine WL.nil ?_
  refine hK17 _ _ ?_; try clear hK17 K17
  refine CW.ret ⟨_, rfl, ?_⟩
  refine ⟨?_, hfu, hE⟩
  rw [hout, List.take_of_length_le (by omega)] at hO
  exact hO
end Go.Proofs.YtoncdfpohdchgaaDoor

/- slices.SortFunc's contract at digests, laid by the shelf at this program, in plain words. No condition. -/
namespace Go.Proofs.YtoncdfpohdchgaaDoor
open Go.Shelf
def sortD_ren : Go.Shelf.Ren := ⟨fun | 6 => 57 | 15 => 72 | 14 => 71 | 28 => 85 | 29 => 86 | 20 => 77 | 21 => 78 | 22 => 79 | 23 => 80 | 24 => 81 | 25 => 82 | 26 => 83 | 27 => 84 | 46 => 90 | 47 => 91 | 48 => 92 | 49 => 93 | 50 => 94 | 57 => 96 | n => n, fun | 22 => 29 | 24 => 31 | 25 => 114 | 3 => 3 | 39 => 105 | 0 => 0 | 53 => 96 | 55 => 104 | 4 => 4 | 46 => 146 | 45 => 145 | 50 => 71 | 5 => 5 | 9 => 9 | 66 => 155 | 70 => 159 | 76 => 161 | 77 => 162 | n => n, fun | n => n⟩
theorem sortD : Go.Proofs.SlLaysF0.n6 Tryd.prog sortD_ren := {
  mixed := by kernel_rfl
  f6 := ⟨Tryd.f57.name, by decide, Tryd.func57.trans (congrArg some (by kernel_rfl))⟩
  f14 := ⟨Tryd.f71.name, by decide, Tryd.func71.trans (congrArg some (by kernel_rfl))⟩
  f15 := Tryd.func72.trans (congrArg some (by kernel_rfl))
  f20 := ⟨Tryd.f77.name, by decide, Tryd.func77.trans (congrArg some (by kernel_rfl))⟩
  f21 := ⟨Tryd.f78.name, by decide, Tryd.func78.trans (congrArg some (by kernel_rfl))⟩
  f22 := ⟨Tryd.f79.name, by decide, Tryd.func79.trans (congrArg some (by kernel_rfl))⟩
  f23 := ⟨Tryd.f80.name, by decide, Tryd.func80.trans (congrArg some (by kernel_rfl))⟩
  f24 := ⟨Tryd.f81.name, by decide, Tryd.func81.trans (congrArg some (by kernel_rfl))⟩
  f25 := ⟨Tryd.f82.name, by decide, Tryd.func82.trans (congrArg some (by kernel_rfl))⟩
  f26 := ⟨Tryd.f83.name, by decide, Tryd.func83.trans (congrArg some (by kernel_rfl))⟩
  f27 := ⟨Tryd.f84.name, by decide, Tryd.func84.trans (congrArg some (by kernel_rfl))⟩
  f28 := Tryd.func85.trans (congrArg some (by kernel_rfl))
  f29 := Tryd.func86.trans (congrArg some (by kernel_rfl))
  f46 := ⟨Tryd.f90.name, by decide, Tryd.func90.trans (congrArg some (by kernel_rfl))⟩
  f47 := Tryd.func91.trans (congrArg some (by kernel_rfl))
  f48 := Tryd.func92.trans (congrArg some (by kernel_rfl))
  f49 := ⟨Tryd.f93.name, by decide, Tryd.func93.trans (congrArg some (by kernel_rfl))⟩
  f50 := ⟨Tryd.f94.name, by decide, Tryd.func94.trans (congrArg some (by kernel_rfl))⟩
  f57 := ⟨Tryd.f96.name, by decide, Tryd.func96.trans (congrArg some (by kernel_rfl))⟩
  t0 := Tryd.underlying0
  a0 := Tryd.isAgg0
  z0 := Tryd.sizeOf0
  v0 := Tryd.zeroValue0
  t3 := Tryd.underlying3
  a3 := Tryd.isAgg3
  z3 := Tryd.sizeOf3
  v3 := Tryd.zeroValue3
  t4 := Tryd.underlying4
  a4 := Tryd.isAgg4
  z4 := Tryd.sizeOf4
  v4 := Tryd.zeroValue4
  t5 := Tryd.underlying5
  a5 := Tryd.isAgg5
  z5 := Tryd.sizeOf5
  v5 := Tryd.zeroValue5
  t9 := Tryd.underlying9
  a9 := Tryd.isAgg9
  z9 := Tryd.sizeOf9
  v9 := Tryd.zeroValue9
  t22 := Tryd.underlying29
  a22 := Tryd.isAgg29
  z22 := Tryd.sizeOf29
  v22 := Tryd.zeroValue29
  t25 := Tryd.underlying114
  a25 := Tryd.isAgg114
  z25 := Tryd.sizeOf114
  v25 := Tryd.zeroValue114
  t39 := Tryd.underlying105
  a39 := Tryd.isAgg105
  z39 := Tryd.sizeOf105
  v39 := Tryd.zeroValue105
  t45 := Tryd.underlying145
  a45 := Tryd.isAgg145
  z45 := Tryd.sizeOf145
  v45 := Tryd.zeroValue145
  t46 := Tryd.underlying146
  a46 := Tryd.isAgg146
  z46 := Tryd.sizeOf146
  v46 := Tryd.zeroValue146
  t50 := Tryd.underlying71
  a50 := Tryd.isAgg71
  z50 := Tryd.sizeOf71
  v50 := Tryd.zeroValue71
  t53 := Tryd.underlying96
  a53 := Tryd.isAgg96
  z53 := Tryd.sizeOf96
  v53 := Tryd.zeroValue96
  t55 := Tryd.underlying104
  a55 := Tryd.isAgg104
  z55 := Tryd.sizeOf104
  v55 := Tryd.zeroValue104
  t66 := Tryd.underlying155
  a66 := Tryd.isAgg155
  z66 := Tryd.sizeOf155
  v66 := Tryd.zeroValue155
  t70 := Tryd.underlying159
  a70 := Tryd.isAgg159
  z70 := Tryd.sizeOf159
  v70 := Tryd.zeroValue159
  t76 := Tryd.underlying161
  a76 := Tryd.isAgg161
  z76 := Tryd.sizeOf161
  v76 := Tryd.zeroValue161
  t77 := Tryd.underlying162
  a77 := Tryd.isAgg162
  z77 := Tryd.sizeOf162
  v77 := Tryd.zeroValue162 }
end Go.Proofs.YtoncdfpohdchgaaDoor

/- slices.SortFunc at digests of our own: what it leaves; the order of digests. No condition; no program. -/
namespace Go.Pl
open Go.Fw Go.Proofs Go.Sort
theorem bl_asymm : ∀ {a b : List UInt8}, Op.bytesLess a b = true → Op.bytesLess b a = false
  | _, [], h => by simp [Op.bytesLess] at h
  | [], _ :: _, _ => by simp [Op.bytesLess]
  | a :: x, b :: y, h => by
    simp only [Op.bytesLess, Bool.or_eq_true, decide_eq_true_eq, Bool.and_eq_true, beq_iff_eq] at h
    simp only [Op.bytesLess, Bool.or_eq_false_iff, decide_eq_false_iff_not, Bool.and_eq_false_imp, beq_iff_eq]
    rcases h with h | ⟨rfl, h⟩
    · exact ⟨fun h' => by have := UInt8.lt_iff_toNat_lt.1 h; have := UInt8.lt_iff_toNat_lt.1 h'; omega, fun e => by subst e; exact absurd h (UInt8.lt_irrefl _)⟩
    · exact ⟨UInt8.lt_irrefl _, fun _ => bl_asymm h⟩
theorem bl_trans : ∀ {a b c : List UInt8}, Op.bytesLess a b = true → Op.bytesLess b c = true → Op.bytesLess a c = true
  | _, [], _, h, _ => by simp [Op.bytesLess] at h
  | _, _ :: _, [], _, h => by simp [Op.bytesLess] at h
  | [], _ :: _, _ :: _, _, _ => by simp [Op.bytesLess]
  | a :: x, b :: y, c :: z, h, k => by
    simp only [Op.bytesLess, Bool.or_eq_true, decide_eq_true_eq, Bool.and_eq_true, beq_iff_eq] at h k ⊢
    rcases h with h | ⟨rfl, h⟩
    · rcases k with k | ⟨rfl, k⟩
      · exact .inl (UInt8.lt_trans h k)
      · exact .inl h
    · rcases k with k | ⟨rfl, k⟩
      · exact .inl k
      · exact .inr ⟨rfl, bl_trans h k⟩
theorem bl_tri : ∀ {a b : List UInt8}, a.length = b.length → Op.bytesLess a b = false → Op.bytesLess b a = false → a = b
  | [], [], _, _, _ => rfl
  | [], _ :: _, h, _, _ => by simp at h
  | _ :: _, [], h, _, _ => by simp at h
  | a :: x, b :: y, hl, h, k => by
    simp only [Op.bytesLess, Bool.or_eq_false_iff, decide_eq_false_iff_not, Bool.and_eq_false_imp, beq_iff_eq] at h k
    have e : a = b := UInt8.toNat_inj.1 (by
      have h1 : ¬ a.toNat < b.toNat := fun x => h.1 (UInt8.lt_iff_toNat_lt.2 x)
      have h2 : ¬ b.toNat < a.toNat := fun x => k.1 (UInt8.lt_iff_toNat_lt.2 x)
      omega)
    subst e
    rw [bl_tri (by simpa using hl) (h.2 rfl) (k.2 rfl)]
theorem less_asymm {a b : Dig} (h : lessB a b = true) : lessB b a = false := bl_asymm h
theorem less_trans {a b c : Dig} (h : lessB a b = true) (k : lessB b c = true) : lessB a c = true := bl_trans h k
theorem less_tri {a b : Dig} (h : lessB a b = false) (k : lessB b a = false) : a = b := Subtype.ext (bl_tri (by rw [a.2, b.2]) h k)
theorem less_irrefl (a : Dig) : lessB a a = false := bytesLess_self _
/-- What commit's closure hands back. -/
def cfD (a b : Dig) : Int := if lessB a b = true then -1 else 1
theorem lt_cfD (a b : Dig) : ltOf cfD a b = lessB a b := by
  unfold ltOf cfD
  cases lessB a b <;> simp
theorem swo_cfD : SWO (ltOf cfD) where
  irrefl x := by rw [lt_cfD]; exact less_irrefl x
  trans x y z h k := by rw [lt_cfD] at h k ⊢; exact less_trans h k
  ntrans x y z h k := by
    rw [lt_cfD] at h k ⊢
    cases hc : lessB x z with
    | false => rfl
    | true =>
      cases hd : lessB y x with
      | true => rw [less_trans hd hc] at k; cases k
      | false =>
        have := less_tri h hd; subst this
        rw [hc] at k; cases k
def sortedD (l : List Dig) : List Dig := l.mergeSort fun x y => !(ltOf cfD) y x
end Go.Pl
namespace Go.Fw
open Go.RowKit Go.Proofs Go.Sort
theorem flat_get {α : Type} {enc : α → List Value} {k : Nat} (hk : 0 < k) (he : ∀ x, (enc x).length = k) : ∀ (xs : List α) (t : Nat), ((xs.map enc).flatten)[t]? = (xs[t / k]?).bind fun x => (enc x)[t % k]?
  | [], t => by simp
  | x :: xs, t => by
    simp only [List.map_cons, List.flatten_cons, List.getElem?_append, he]
    split
    · rename_i h
      rw [Nat.div_eq_of_lt h, Nat.mod_eq_of_lt h]; rfl
    · rename_i h
      have e1 : t / k = (t - k) / k + 1 := Nat.div_eq_sub_div hk (by omega)
      have e2 : t % k = (t - k) % k := Nat.mod_eq_sub_mod (by omega)
      rw [flat_get hk he xs, e1, e2, List.getElem?_cons_succ]
theorem flatK_toList {α : Type} [Inhabited α] {enc : α → List Value} {k : Nat} (hk : 0 < k) (he : ∀ x, (enc x).length = k) (xs : List α) : (flatK enc k xs.toArray).toList = (xs.map enc).flatten := by
  apply List.ext_getElem?
  intro t
  rw [flat_get hk he]
  by_cases ht : t < xs.length * k
  · have h1 : t / k < xs.length := Nat.div_lt_of_lt_mul (by rw [Nat.mul_comm]; exact ht)
    have h2 : t % k < (enc xs[t / k]).length := by rw [he]; exact Nat.mod_lt _ hk
    have h3 : t < (flatK enc k xs.toArray).size := by rw [size_flatK]; exact ht
    have h4 := get_flatK enc k xs.toArray t (by simpa using ht)
    rw [getElem!_pos _ t h3, getElem!_pos xs.toArray (t / k) (by simpa using h1)] at h4
    rw [Array.getElem?_toList, Array.getElem?_eq_getElem h3, h4, List.getElem?_eq_getElem h1, Option.bind_some, List.getElem?_eq_getElem h2]
    simp only [List.getElem_toArray]
    rw [getElem!_pos (enc xs[t / k]) (t % k) h2]
  · have h1 : ¬ t / k < xs.length := fun h => ht (Nat.lt_mul_of_div_lt h hk)
    rw [Array.getElem?_toList, Array.getElem?_eq_none (by rw [size_flatK]; simpa using ht), List.getElem?_eq_none (by omega)]
    rfl
theorem putCells_list (F : Array Value) (xs rest : List Value) (h : F.size = xs.length) : putCells id 0 F (xs ++ rest).toArray = (F.toList ++ rest).toArray := by
  apply Array.ext_getElem?
  intro j
  simp only [putCells, Array.getElem?_mapIdx, List.getElem?_toArray, List.getElem?_append, Nat.zero_le, true_and, Nat.zero_add, Nat.sub_zero, id]
  by_cases hj : j < F.size
  · rw [if_pos (by omega), if_pos (by simpa using hj), List.getElem?_eq_getElem (by omega), Array.getElem?_toList, Array.getElem?_eq_getElem hj]
    simp only [Option.map_some, if_pos hj]
    rw [getElem!_pos F j hj]
  · rw [if_neg (by omega), if_neg (by simpa using hj), h]
    simp only [if_neg (show ¬ j < xs.length by omega), Array.length_toList, h]
    cases rest[j - xs.length]? <;> rfl
section
variable {w : World} {e : TypeId} {k g n c : Nat} {α : Type} [Inhabited α] {enc : α → List Value} {l : List α}
theorem Own.holds (hk : 0 < k) (he : ∀ x, (enc x).length = k) (h : Own w e k (.slice (some ⟨g, 0, none⟩) n c) ((l.map enc).flatten)) : HoldsK enc k w g 0 l.toArray ∧ g < w.heap.size := by
  rcases h with ⟨h, _⟩ | ⟨g', n', c', rest, fz, h, hh, hxl, hnc, hcm, hal, hfz⟩
  · cases h
  injection h with h2 h3 h4
  injection h2 with h2
  injection h2 with h2
  subst h2; subst h3; subst h4
  refine ⟨fun j hj => ?_, (Array.getElem?_eq_some_iff.1 hh).1⟩
  have hj' : j < (flatK enc k l.toArray).toList.length := by simpa using hj
  have hjx : j < ((l.map enc).flatten).length := by rw [← flatK_toList hk he]; exact hj'
  refine ⟨?_, ?_⟩
  · rw [Nat.zero_add]
    unfold World.cell?
    simp only [hh]
    simp only [List.getElem?_toArray]
    rw [List.getElem?_append_left hjx, ← flatK_toList hk he, Array.getElem?_toList, Array.getElem?_eq_getElem hj, getElem!_pos _ j hj]
    rfl
  · rw [Nat.zero_add]
    unfold World.frozen?
    simp only [hh]
    have := hfz j (by have : ((l.map enc).flatten).length ≤ c * k := by rw [← hal]; simp
                      omega)
    simp only [Bool.and_eq_false_imp, decide_eq_true_eq, decide_eq_false_iff_not]
    omega
theorem Own.sorted (hk : 0 < k) (he : ∀ x, (enc x).length = k) (h : Own w e k (.slice (some ⟨g, 0, none⟩) n c) ((l.map enc).flatten)) {l' : List α} (hl : l'.length = l.length) (m : Nat) (os : Array Obj) :
    Own (sortWorldK enc k w g 0 m l'.toArray os) e k (.slice (some ⟨g, 0, none⟩) n c) ((l'.map enc).flatten) ∧ Chg (· = g) w (sortWorldK enc k w g 0 m l'.toArray os) := by
  rcases h with ⟨h, _⟩ | ⟨g', n', c', rest, fz, h, hh, hxl, hnc, hcm, hal, hfz⟩
  · cases h
  injection h with h2 h3 h4
  injection h2 with h2
  injection h2 with h2
  subst h2; subst h3; subst h4
  have hlen : ((l'.map enc).flatten).length = ((l.map enc).flatten).length := by rw [flat_length he, flat_length he, hl]
  have hlt := (Array.getElem?_eq_some_iff.1 hh).1
  have hg : (sortWorldK enc k w g 0 m l'.toArray os).heap[g]? = some (.cells ((l'.map enc).flatten ++ rest).toArray e fz) := by
    show ((w.heap.modify g (onCells (putCells id 0 (flatK enc k l'.toArray)))) ++ os)[g]? = _
    rw [Array.getElem?_append_left (by simpa using hlt), Array.getElem?_modify, if_pos rfl, hh, Option.map_some]
    simp only [onCells]
    rw [putCells_list _ _ _ (by rw [size_flatK, flat_length he]; simp [hl]), flatK_toList hk he]
  refine ⟨.inr ⟨g, n, c, rest, fz, rfl, hg, by rw [hlen, hxl], hnc, hcm, by rw [List.length_append, hlen, ← List.length_append, hal], hfz⟩, rfl, rfl, rfl, ?_, fun b hb hn => ?_, Nat.le_add_right _ _⟩
  · show _ ≤ ((w.heap.modify g _) ++ os).size
    simp
  · show ((w.heap.modify g (onCells (putCells id 0 (flatK enc k l'.toArray)))) ++ os)[b]? = _
    rw [Array.getElem?_append_left (by simpa using hb), Array.getElem?_modify, if_neg (fun h => hn h.symm)]
end
theorem Ext.grown {W w' : World} (h : Ext W w') : ∃ q os', w' = grow (W.drewN q) os' := by
  refine ⟨w'.drawn - W.drawn, w'.heap.extract W.heap.size w'.heap.size, ?_⟩
  obtain ⟨h1, h2, h3, h4, h5, h6⟩ := h
  have hh : w'.heap = W.heap ++ w'.heap.extract W.heap.size w'.heap.size := by
    apply Array.ext_getElem?
    intro i
    by_cases hi : i < W.heap.size
    · rw [Array.getElem?_append_left hi]; exact h5 i hi (fun f => f)
    · rw [Array.getElem?_append_right (by omega), Array.getElem?_extract]
      split
      · congr 1; omega
      · rw [Array.getElem?_eq_none (by omega)]
  cases W; cases w'
  simp only [World.drewN, grow] at *
  subst h1; subst h2; subst h3
  congr 1
  omega
end Go.Fw

/- The plain law of a commit's references: sorting what is gathered once is sorting by insertion. No condition; no program. -/
namespace Go.Pl
open Go.Fw Go.Proofs Go.Sort
abbrev Up (l : List Dig) : Prop := l.Pairwise fun x y => lessB x y = true
theorem up_eq : ∀ {a b : List Dig}, Up a → Up b → (∀ x, x ∈ a ↔ x ∈ b) → a = b
  | [], [], _, _, _ => rfl
  | [], y :: b, _, _, h => by have := (h y).2 (by simp); simp at this
  | x :: a, [], _, _, h => by have := (h x).1 (by simp); simp at this
  | x :: a, y :: b, ha, hb, h => by
    have ha' := List.pairwise_cons.1 ha
    have hb' := List.pairwise_cons.1 hb
    have e : x = y := by
      have h1 := (h x).1 (by simp)
      have h2 := (h y).2 (by simp)
      rcases List.mem_cons.1 h1 with h1 | h1
      · exact h1
      rcases List.mem_cons.1 h2 with h2 | h2
      · exact h2.symm
      have h3 := hb'.1 x h1
      have h4 := ha'.1 y h2
      rw [less_asymm h3] at h4
      cases h4
    subst e
    have := up_eq ha'.2 hb'.2 fun z => by
      constructor
      · intro hz
        rcases List.mem_cons.1 ((h z).1 (by simp [hz])) with h1 | h1
        · subst h1; have := ha'.1 z hz; rw [less_irrefl] at this; cases this
        · exact h1
      · intro hz
        rcases List.mem_cons.1 ((h z).2 (by simp [hz])) with h1 | h1
        · subst h1; have := hb'.1 z hz; rw [less_irrefl] at this; cases this
        · exact h1
    rw [this]
def ins (d : Dig) : List Dig → List Dig
  | [] => [d]
  | x :: r => if lessB x d = true then x :: ins d r else if x = d then x :: r else d :: x :: r
theorem insD_eq (d : Dig) : ∀ out, insD out d = ins d out
  | [] => by simp [insD, insAt, ins]
  | x :: r => by
    have ih := insD_eq d r
    unfold insD at ih ⊢
    rw [insAt, ins]
    split
    · simp only [List.getElem?_cons_succ, List.take_succ_cons, List.drop_succ_cons]
      rw [← ih]
      split <;> simp
    · simp only [List.getElem?_cons_zero, Option.some.injEq, List.take_zero, List.drop_zero, List.nil_append]
theorem mem_ins {d y : Dig} : ∀ {out : List Dig}, y ∈ ins d out ↔ y = d ∨ y ∈ out
  | [] => by simp [ins]
  | x :: r => by
    rw [ins]
    split
    · rw [List.mem_cons, mem_ins, List.mem_cons]
      constructor
      · rintro (h | h | h)
        · exact .inr (.inl h)
        · exact .inl h
        · exact .inr (.inr h)
      · rintro (h | h | h)
        · exact .inr (.inl h)
        · exact .inl h
        · exact .inr (.inr h)
    · split
      · rename_i h; subst h
        simp
      · simp
theorem up_ins {d : Dig} : ∀ {out : List Dig}, Up out → Up (ins d out)
  | [], _ => by simp [ins, Up]
  | x :: r, h => by
    have h' := List.pairwise_cons.1 h
    rw [ins]
    split
    · rename_i hl
      refine List.pairwise_cons.2 ⟨fun y hy => ?_, up_ins h'.2⟩
      rcases mem_ins.1 hy with rfl | hy
      · exact hl
      · exact h'.1 y hy
    · rename_i hl
      split
      · exact h
      · rename_i hne
        have hdx : lessB d x = true := by
          cases hc : lessB d x with
          | true => rfl
          | false => exact absurd (less_tri (by simpa using hl) hc) hne
        refine List.pairwise_cons.2 ⟨fun y hy => ?_, h⟩
        rcases List.mem_cons.1 hy with rfl | hy
        · exact hdx
        · exact less_trans hdx (h'.1 y hy)
theorem srt_up (l : List Dig) : ∀ out, Up out → Up (l.foldl insD out) := by
  induction l with
  | nil => intro out h; exact h
  | cons d l ih => intro out h; rw [List.foldl_cons]; exact ih _ (by rw [insD_eq]; exact up_ins h)
theorem srt_mem (l : List Dig) (y : Dig) : ∀ out, y ∈ l.foldl insD out ↔ y ∈ l ∨ y ∈ out := by
  induction l with
  | nil => intro out; simp
  | cons d l ih =>
    intro out
    rw [List.foldl_cons, ih, insD_eq, mem_ins, List.mem_cons]
    constructor
    · rintro (h | h | h)
      · exact .inl (.inr h)
      · exact .inl (.inl h)
      · exact .inr h
    · rintro ((h | h) | h)
      · exact .inr (.inl h)
      · exact .inl h
      · exact .inr (.inr h)
theorem sortedD_mem (l : List Dig) (y : Dig) : y ∈ sortedD l ↔ y ∈ l := (List.mergeSort_perm l _).mem_iff
theorem sortedD_length (l : List Dig) : (sortedD l).length = l.length := (List.mergeSort_perm l _).length_eq
theorem sortedD_up {l : List Dig} (h : l.Nodup) : Up (sortedD l) := by
  have h1 : (sortedD l).Pairwise fun x y => (!(ltOf cfD) y x) = true := List.pairwise_mergeSort (le := fun x y => !(ltOf cfD) y x) (fun a b c h k => by
      simp only [lt_cfD, Bool.not_eq_true'] at h k ⊢
      have := swo_cfD.ntrans c b a (by rw [lt_cfD]; exact k) (by rw [lt_cfD]; exact h)
      rwa [lt_cfD] at this) (fun a b => by
      simp only [lt_cfD, Bool.or_eq_true, Bool.not_eq_true']
      cases hc : lessB b a with
      | false => exact .inl rfl
      | true => exact .inr (less_asymm hc)) l
  have h2 : (sortedD l).Nodup := (List.mergeSort_perm l _).nodup_iff.2 h
  refine (h1.and h2).imp fun {a b} hab => ?_
  have h3 := hab.1
  simp only [lt_cfD, Bool.not_eq_true'] at h3
  cases hc : lessB a b with
  | true => rfl
  | false => exact absurd (less_tri hc h3) hab.2
/-- Gathered once, in order of coming. -/
def addR (keep : OpD → Bool) (out : List Dig) (o : OpD) : List Dig := if keep o = true ∧ ¬ o.at_.c ∈ out then out ++ [o.at_.c] else out
def gathC (l : List OpD) : List Dig := l.foldl (addR fun o => decide (refKind o.at_ = 2)) []
def gathR (l : List OpD) : List Dig := (l.filter fun o => decide (refKind o.at_ = 2)).map fun o => o.at_.c
theorem add_nodup {keep : OpD → Bool} (l : List OpD) : ∀ out : List Dig, out.Nodup → (l.foldl (addR keep) out).Nodup := by
  induction l with
  | nil => intro out h; exact h
  | cons o l ih =>
    intro out h
    rw [List.foldl_cons]
    refine ih _ ?_
    unfold addR
    split
    · rename_i hk
      rw [List.nodup_append]
      refine ⟨h, by simp, fun a ha b hb => ?_⟩
      rw [List.mem_singleton] at hb
      subst hb
      exact fun e => hk.2 (e ▸ ha)
    · exact h
theorem add_mem {keep : OpD → Bool} (l : List OpD) (y : Dig) : ∀ out : List Dig, y ∈ l.foldl (addR keep) out ↔ y ∈ (l.filter keep).map (fun o => o.at_.c) ∨ y ∈ out := by
  induction l with
  | nil => intro out; simp
  | cons o l ih =>
    intro out
    rw [List.foldl_cons, ih, List.filter_cons]
    unfold addR
    by_cases hk : keep o = true
    · simp only [hk, true_and, if_true, List.map_cons, List.mem_cons]
      split
      · rw [List.mem_append, List.mem_singleton]
        constructor
        · rintro (h | h | h)
          · exact .inl (.inr h)
          · exact .inr h
          · exact .inl (.inl h)
        · rintro ((h | h) | h)
          · exact .inr (.inr h)
          · exact .inl h
          · exact .inr (.inl h)
      · rename_i hm
        have hm := Classical.not_not.1 hm
        constructor
        · rintro (h | h)
          · exact .inl (.inr h)
          · exact .inr h
        · rintro ((h | h) | h)
          · subst h; exact .inr hm
          · exact .inl h
          · exact .inr h
    · simp [hk]
theorem add_len {keep : OpD → Bool} (l : List OpD) : ∀ out : List Dig, (l.foldl (addR keep) out).length ≤ out.length + l.length := by
  induction l with
  | nil => intro out; simp
  | cons o l ih =>
    intro out
    have h1 := ih (addR keep out o)
    have h2 : (addR keep out o).length ≤ out.length + 1 := by
      unfold addR; split <;> simp
    simp only [List.foldl_cons, List.length_cons]; omega
theorem gathR_len (l : List OpD) : (gathR l).length ≤ l.length := by
  unfold gathR
  rw [List.length_map]; exact List.length_filter_le _ _
theorem gathC_take {l : List OpD} {i : Nat} {o : OpD} (h : l[i]? = some o) : gathC (l.take (i + 1)) = addR (fun o => decide (refKind o.at_ = 2)) (gathC (l.take i)) o := by
  rw [take_succ h, gathC, List.foldl_append]; rfl
theorem gathR_take {l : List OpD} {i : Nat} {o : OpD} (h : l[i]? = some o) : gathR (l.take (i + 1)) = gathR (l.take i) ++ if refKind o.at_ = 2 then [o.at_.c] else [] := by
  rw [take_succ h, gathR, List.filter_append, List.map_append]
  congr 1
  by_cases hk : refKind o.at_ = 2 <;> simp [hk]
/-- The law. -/
theorem refs_law (l : List OpD) : sortedD (gathC l) = srtD (gathR l) :=
  up_eq (sortedD_up (add_nodup l [] List.nodup_nil)) (srt_up _ _ List.Pairwise.nil) fun x => by
    rw [sortedD_mem, gathC, add_mem, srtD, srt_mem, gathR]
theorem keep_iff (r : RefD) : (¬ rootB r = true ∧ ¬ r.own = true ∧ refB r = true) ↔ refKind r = 2 := by
  unfold rootB refB refKind
  simp only [decide_eq_true_eq]
  constructor
  · rintro ⟨h1, h2, h3⟩
    rw [if_neg h2] at h3 ⊢
    simp only [rootB, Bool.or_eq_true, decide_eq_true_eq, Bool.and_eq_true] at h3
    rcases h3 with h3 | h3
    · exact absurd h3 h1
    · rw [if_pos ⟨by omega, by omega⟩]
  · intro h
    split at h
    · split at h <;> simp at h
    · rename_i h2
      split at h
      · rename_i h3
        refine ⟨fun e => ?_, h2, ?_⟩
        · subst e; simp [RefD.zero] at h3
        · rw [if_neg h2]
          simp only [Bool.or_eq_true, decide_eq_true_eq, Bool.and_eq_true]
          exact .inr ⟨by omega, by omega⟩
      · split at h <;> simp at h
end Go.Pl

/- slices.SortFunc at digests of our own, whatever the comparing function that tells the digests' order. No condition. -/
namespace Go.Proofs.YtoncdfpohdchgaaDoor
open Go.RowKit Go.Fw Go.Pl Go.Sort
instance : Inhabited Dig := ⟨Dig.zero⟩
theorem sort_gen {f : Nat} {fn : Func} {c : Code} (cf : Dig → Dig → Int) (hcf : ∀ a b, ltOf cf a b = lessB a b) (hf : Tryd.prog.funcs[f]? = some fn) (hnm : (fn.name == "runtime.NumGoroutine") = false) (hbd : fn.body = some c)
    (hcmp : ∀ (a b : Dig) (w : World), Calls Tryd.prog f #[digV a, digV b] w (Ret fun v w' => v = .int .i64 (cf a b) ∧ Ext w w'))
    (A : Option Addr) (m c : Nat) (l : List Dig) (w : World) (hO : Own w TDg 32 (.slice A m c) (flatD l)) (hs : l.length < 4611686018427387904) : Calls Tryd.prog 57 #[.slice A m c, .func (.func f) #[] #[]] w (Ret fun v w' => v = .tuple #[] ∧ Own w' TDg 32 (.slice A m c) (flatD (sortedD l)) ∧ Chg (fun k => (Value.slice A m c).ownBlock = some k) w w') := by
  have hlt : ltOf cf = ltOf cfD := by funext a b; rw [hcf, lt_cfD]
  obtain ⟨hlen, hmc, hcm⟩ := hO.len digC_length (by decide)
  unfold maxLen at hcm
  by_cases h0 : l = []
  · subst h0
    simp at hlen
    subst hlen
    refine (AnyF.slices_SortFunc_none sortD A c _ w).mono fun e w' h => ?_
    obtain ⟨rfl, rfl⟩ := h
    exact ⟨rfl, by unfold sortedD; rw [List.mergeSort_nil]; exact hO, Chg.refl⟩
  · obtain ⟨g, rfl, hg⟩ := hO.head (by
      intro h
      have := congrArg List.length h
      rw [flat_length digC_length, List.length_nil] at this
      cases l with
      | nil => exact h0 rfl
      | cons _ _ => simp at this)
    obtain ⟨hH, hblk⟩ := hO.holds (by decide) digC_length
    have hC : CmpLays Tryd.prog f #[] digC 32 cf g 0 l.toArray.size w := fun mm os dk _ x y => by
      rw [Array.append_empty]
      refine (hcmp x y _).mono fun e w' h => ?_
      cases e with
      | returned v => obtain ⟨rfl, hx⟩ := h; exact ⟨rfl, hx.grown⟩
      | panicked ch => exact h.elim
      | outgrown => exact h.elim
    have hcon := AnyQ.slices_SortFunc_total sortD 32 Tryd.isAgg31 Tryd.sizeOf31 digC digC_length (fun x v hv => one_digC v hv) cf (hlt ▸ swo_cfD) f #[] g 0 c l.toArray w (enters_of hf hnm hbd) hC hH hblk (by simpa using hs) (fun x y h k => by rw [hcf] at h k; exact less_tri h k)
    subst hlen
    refine Calls.mono (R := fun e w' => e = .returned (.tuple #[]) ∧ ∃ n os, w' = sortWorldK digC 32 w g 0 n (l.toArray.toList.mergeSort fun x y => !(ltOf cf) y x).toArray os) hcon fun e w' h => ?_
    obtain ⟨rfl, n, os, rfl⟩ := h
    obtain ⟨h1, h2⟩ := hO.sorted (l' := sortedD l) (by decide) digC_length (sortedD_length l) n os
    have e : (l.toArray.toList.mergeSort fun x y => !(ltOf cf) y x) = sortedD l := by rw [hlt]; rfl
    rw [e]
    refine ⟨rfl, h1, h2.mono fun b _ hb => by rw [hb]; rfl⟩
end Go.Proofs.YtoncdfpohdchgaaDoor
