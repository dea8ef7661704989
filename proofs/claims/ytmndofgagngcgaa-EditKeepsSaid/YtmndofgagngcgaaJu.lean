/- What the operations of a script do to a tree: they lead to the text, and what the script keeps stays. No condition but what Add asks; no program. -/
import Derived.Test.YtmndofgagngcgaaJd
set_option linter.unusedSimpArgs false
set_option linter.unusedVariables false
namespace Go.Fu
open Go.Pl Go.Fw
/-- Steps that lead from one text to another one. -/
inductive Trans : List UInt8 → List UInt8 → List Stp → Prop
  | nil : Trans [] [] []
  | keep {x : UInt8} {a b : List UInt8} {ss : List Stp} : Trans a b ss → Trans (x :: a) (x :: b) (.keep :: ss)
  | cut {x : UInt8} {a b : List UInt8} {ss : List Stp} : Trans a b ss → Trans (x :: a) b (.cut :: ss)
  | put {y : UInt8} {a b : List UInt8} {ss : List Stp} : Trans a b ss → Trans a (y :: b) (.put y :: ss)
theorem stp_trans : ∀ (a b : List UInt8), Trans a b (stp a b)
  | [], b => by
    rw [stp_nil]
    induction b with
    | nil => exact .nil
    | cons y b ih => exact .put ih
  | x :: a, b => by
    induction b with
    | nil => rw [stp_end]; exact .cut (stp_trans a [])
    | cons y b ih =>
      rw [stp_cons]
      split
      · rename_i h; subst h; exact .keep (stp_trans a b)
      · split
        · exact .cut (stp_trans a (y :: b))
        · exact .put ih
/-! ## Nothing is wrong with the operations -/
theorem rightI_app {l m : List OpD} {i : Nat} (hi : i < l.length) : rightI (l ++ m) ((i : Int) + 1) = rightI l ((i : Int) + 1) := by
  obtain ⟨x, hx⟩ : ∃ x, l[i]? = some x := ⟨_, List.getElem?_eq_getElem hi⟩
  have hx' : (l ++ m)[i]? = some x := by rw [List.getElem?_append_left hi]; exact hx
  have hi' : (((i : Int) + 1) - 1).toNat = i := by omega
  rw [rightI_of (x := x) (by rw [List.length_append]; omega) (by rw [hi']; exact hx'), rightI_of (x := x) (by omega) (by rw [hi']; exact hx)]
  have hk : ¬ ((i : Int) + 1 ≤ x.at_.n) → kindAt (l ++ m) (x.at_.n - 1).toNat = kindAt l (x.at_.n - 1).toNat := fun h => by
    unfold kindAt; rw [List.getElem?_append_left (by omega)]
  unfold rightX
  by_cases h : (i : Int) + 1 ≤ x.at_.n
  · simp only [h, true_or]
  · rw [hk h]
theorem wrongAt_app {e : List El} {l m : List OpD} {i : Nat} {x : OpD} (hi : i < l.length) : wrongAt e (l ++ m) i x = wrongAt e l i x := by
  unfold wrongAt; rw [rightI_app hi]
def RightAll (e : List El) (out : List OpD) : Prop := ∀ (j : Nat) (x : OpD), out[j]? = some x → wrongAt e out j x = 0
theorem RightAll.snoc {e : List El} {out : List OpD} {x : OpD} (h : RightAll e out) (hx : wrongAt e (out ++ [x]) out.length x = 0) : RightAll e (out ++ [x]) := fun j y hy => by
  rcases Nat.lt_or_ge j out.length with hj | hj
  · rw [wrongAt_app hj]; exact h j y (by rwa [List.getElem?_append_left hj] at hy)
  · have hj2 := (List.getElem?_eq_some_iff.1 hy).1
    simp at hj2
    obtain rfl : j = out.length := by omega
    simp at hy; subst hy; exact hx
theorem RightAll.zero {e : List El} {out : List OpD} (h : RightAll e out) : wrongN e out out.length = 0 := by
  by_cases h0 : wrongN e out out.length = 0
  · exact h0
  · obtain ⟨j, x, _, hx, hw⟩ := wrongN_first h0
    exact absurd (h j x hx) hw
theorem right_del {e : List El} (g : Good e) {q i : Nat} (hq : q ∈ seenE e) {l : List OpD} (hl : l[i]? = some ⟨2, false, nm e q, 0⟩) : wrongAt e l i ⟨2, false, nm e q, 0⟩ = 0 := by
  have hi := (List.getElem?_eq_some_iff.1 hl).1
  obtain ⟨z, hz⟩ : ∃ z, e[q]? = some z := ⟨_, List.getElem?_eq_getElem (seen_lt g.down hq)⟩
  have hp := g.seen_pos hq
  obtain ⟨ho, hn1, hn2⟩ := g.own q z hp hz
  have hne : z.name ≠ RefD.zero := fun h => by have := (g.zero hz).1 h; omega
  rw [nm_at hz] at hl ⊢
  have hR : rightI l ((i : Int) + 1) = 0 := by
    rw [rightI_of (x := ⟨2, false, z.name, 0⟩) (by omega) (by rw [show (((i : Int) + 1) - 1).toNat = i by omega]; exact hl)]
    unfold rightX
    rw [if_neg (by simp [refB, ho]; intro _; omega), if_neg (by simp), if_neg (by simp [rootB, hne]), if_neg (by simp), if_neg (by simp [ho])]
  unfold wrongAt
  rw [if_neg (by rw [hR]; decide)]
  refine if_neg fun hk => ?_
  have := g.find hz
  rw [hk.2] at this; cases this
theorem right_put {e : List El} (g : Good e) {at_ : RefD} {left : Bool} {y : UInt8} {a i : Nat} (ha : atE e at_ = some a) (hl : left = true → 0 < a) {l : List OpD} (hx : l[i]? = some ⟨1, left, at_, y⟩) : wrongAt e l i ⟨1, left, at_, y⟩ = 0 := by
  have hi := (List.getElem?_eq_some_iff.1 hx).1
  obtain ⟨z, hz, hn, _⟩ := atE_some.1 ha
  have ho := g.ownF hz
  rw [hn] at ho
  have href : refB at_ = true := by
    by_cases ha0 : a = 0
    · have := (g.zero hz).2 ha0
      rw [hn] at this; rw [this]; simp [refB, rootB, RefD.zero]
    · have := g.own a z (by omega) hz
      rw [hn] at this
      simp [refB, ho, this.2.2]; omega
  have hR : rightI l ((i : Int) + 1) = 0 := by
    rw [rightI_of (x := ⟨1, left, at_, y⟩) (by omega) (by rw [show (((i : Int) + 1) - 1).toNat = i by omega]; exact hx)]
    simp only [rightX, rootB, decide_eq_true_eq]
    rw [if_neg (by rw [href]; decide), if_neg, if_neg (by omega), if_neg (by omega), if_neg (by rw [ho]; simp)]
    rintro ⟨_, h1, h2⟩
    have := hl h1
    have := (g.zero hz).1 (hn.trans h2)
    omega
  unfold wrongAt
  rw [if_neg (by rw [hR]; decide)]
  refine if_neg fun hk => ?_
  rw [ha] at hk; cases hk.2
theorem right_run {e : List El} {y : UInt8} {i : Nat} (h0 : 0 < i) {l : List OpD} (hx : l[i]? = some ⟨1, false, ⟨true, Dig.zero, (i : Int)⟩, y⟩) (hk : kindAt l (i - 1) = 1) : wrongAt e l i ⟨1, false, ⟨true, Dig.zero, (i : Int)⟩, y⟩ = 0 := by
  have hi := (List.getElem?_eq_some_iff.1 hx).1
  have hR : rightI l ((i : Int) + 1) = 0 := by
    rw [rightI_of (x := ⟨1, false, ⟨true, Dig.zero, (i : Int)⟩, y⟩) (by omega) (by rw [show (((i : Int) + 1) - 1).toNat = i by omega]; exact hx)]
    unfold rightX
    rw [if_neg (by simp [refB]; omega), if_neg (by simp), if_neg (by simp), if_neg (by simp), if_neg (by simp only [show ((i : Int) - 1).toNat = i - 1 by omega, hk]; simp; omega)]
  unfold wrongAt
  rw [if_neg (by rw [hR]; decide)]
  refine if_neg fun hk => ?_
  have := (refKind_two hk.1).1
  cases this
theorem cutOps_one {e : List El} {n q : Nat} (h : (seenE e)[n]? = some q) : cutOps e n 1 = [⟨2, false, nm e q, 0⟩] := by
  have hn := (List.getElem?_eq_some_iff.1 h).1
  obtain ⟨_, he⟩ := List.getElem?_eq_some_iff.1 h
  rw [cutOps, List.drop_eq_getElem_cons hn, he]; rfl
/-- The gap that an insertion names. -/
theorem gap_at {L : Coms} {T : Tr} (h : TreeOk L T) {n : Nat} (hn : n ≤ (seenE T.e).length) : (gapE T.e (n : Int)).1 = (gapAt T.e (gapI T.e n)).1 ∧ (gapE T.e (n : Int)).2.1 = (gapAt T.e (gapI T.e n)).2 := by
  rw [gapE, if_neg (by omega)]; exact ⟨rfl, rfl⟩
structure RInv (e : List El) (t : StS) : Prop where
  right : RightAll e t.out
  last : t.run = true → 0 < t.out.length ∧ kindAt t.out (t.out.length - 1) = 1
  kept : t.kept ≤ t.at_
theorem RInv.step {L : Coms} {T : Tr} (h : TreeOk L T) {t : StS} (hI : RInv T.e t) (s : Stp) (hs : t.at_ + s.over ≤ (seenE T.e).length) : RInv T.e (stepO T.e t s) := by
  have hk := hI.kept
  cases s with
  | keep => exact ⟨hI.right, fun h => (by cases h), Nat.le_refl _⟩
  | cut =>
    simp only [Stp.over] at hs
    obtain ⟨q, hq⟩ : ∃ q, (seenE T.e)[t.at_]? = some q := ⟨_, List.getElem?_eq_getElem (by omega)⟩
    refine ⟨?_, fun h => (by cases h), by show t.kept ≤ t.at_ + 1; omega⟩
    show RightAll T.e (t.out ++ cutOps T.e t.at_ 1)
    rw [cutOps_one hq]
    exact hI.right.snoc (right_del h.good (List.mem_of_getElem? hq) (by simp))
  | put y =>
    simp only [Stp.over] at hs
    have hkind : (putOp T.e t y).kind = 1 := by unfold putOp; split <;> rfl
    refine ⟨?_, fun _ => ⟨by show 0 < (t.out ++ [putOp T.e t y]).length; simp, ?_⟩, hk⟩
    · show RightAll T.e (t.out ++ [putOp T.e t y])
      refine hI.right.snoc ?_
      unfold putOp
      by_cases hr : t.run = true
      · rw [if_pos hr]
        obtain ⟨h0, h1⟩ := hI.last hr
        refine right_run h0 (by simp) ?_
        unfold kindAt at h1 ⊢
        rw [List.getElem?_append_left (by omega)]; exact h1
      · rw [if_neg hr]
        obtain ⟨X, Y, ho, ha, _⟩ := gap_split h (n := t.kept) (by omega)
        obtain ⟨A, z, hA, _, _, _, hl, _⟩ := gap_first h ho ha
        obtain ⟨e1, e2⟩ := gap_at h (n := t.kept) (by omega)
        rw [e1, e2]
        exact right_put h.good hA hl (by simp)
    · show kindAt (t.out ++ [putOp T.e t y]) ((t.out ++ [putOp T.e t y]).length - 1) = 1
      simp [kindAt, hkind]
theorem RInv.start (e : List El) : RInv e st0 := ⟨fun j x h => by simp [st0] at h, fun h => (by cases h), Nat.le_refl _⟩
theorem RInv.all {L : Coms} {T : Tr} (h : TreeOk L T) : ∀ (ss : List Stp) (t : StS), RInv T.e t → t.at_ + (ss.map Stp.over).sum ≤ (seenE T.e).length → RInv T.e (ss.foldl (stepO T.e) t)
  | [], _, hI, _ => hI
  | s :: r, t, hI, hb => by
    rw [List.map_cons, List.sum_cons] at hb
    have h1 := hI.step h s (by omega)
    refine RInv.all h r _ h1 ?_
    have : (stepO T.e t s).at_ = t.at_ + s.over := by cases s <;> rfl
    omega
/-- Nothing is wrong with a script's operations but that there may be too many of them, or the commit is there. -/
theorem ops_right {L : Coms} {T : Tr} (h : TreeOk L T) (b : List UInt8) : wrongN T.e (opsE T.e b) (opsE T.e b).length = 0 := by
  rw [ops_steps]
  exact (RInv.all h _ st0 (RInv.start _) (by rw [stp_over]; simp [st0, textE])).right.zero
end Go.Fu
