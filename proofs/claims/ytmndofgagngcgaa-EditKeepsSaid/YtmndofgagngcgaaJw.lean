/- The tree behind some steps of a script. Plain. -/
import Derived.Test.YtmndofgagngcgaaJv
set_option linter.unusedSimpArgs false
set_option linter.unusedVariables false
namespace Go.Fu
open Go.Pl Go.Fw
def sd (y : El) (s : Bool) : List Nat := cond s y.left y.right
/-- Where things stand behind some steps: X0 a Z is the base's walk, parted behind the gap's element a; P0 a M Z is the tree's; M is what was put into the gap. -/
structure TAt (T : Tr) (id : Dig) (t : StS) (f : List El) (W X0 : List Nat) (a : Nat) (Z P0 M : List Nat) (A : Nat) (s : Bool) : Prop where
  f_is : f = addN id t.out T.e t.out.length
  base : orderE T.e = X0 ++ a :: Z
  a_is : a = gapI T.e (t.kept : Int)
  order : orderE f = P0 ++ a :: (M ++ Z)
  vis : (P0 ++ a :: M).filter (fun i => !goneAt f i) = W
  rest : Z.filter (fun i => !goneAt f i) = (seenE T.e).drop t.at_
  right : ∀ z ∈ Z, ∀ x, T.e[z]? = some x → ∃ y, f[z]? = some y ∧ y.right = x.right
  left : ∀ z ∈ Z.tail, ∀ x, T.e[z]? = some x → ∃ y, f[z]? = some y ∧ y.left = x.left
  gapA : (gapAt T.e a).2 = s ∧ atE T.e (gapAt T.e a).1 = some A ∧ (gapAt T.e a).1.own = false
  where_ : (s = false ∧ A = a) ∨ (s = true ∧ ∃ Y, Z = A :: Y)
  gap : ∃ y, f[A]? = some y ∧ (∀ c ∈ sd y s, ∃ j : Int, nm f c = ⟨false, id, j⟩ ∧ j ≤ (t.out.length : Int)) ∧ (s = false → y.right.flatMap (walkE f) = M)
  run : t.run = true → ∃ M0 p y, M = M0 ++ [p] ∧ p + 1 = f.length ∧ f[p]? = some y ∧ y.right = [] ∧ y.name = ⟨false, id, (t.out.length : Int)⟩
section
variable {L : Coms} {T : Tr} {id : Dig} {t : StS} {f : List El} {W X0 Z P0 M : List Nat} {a A q : Nat} {s : Bool}
  (h : TreeOk L T) (hid : id ∉ L.map (·.1)) (hI : RInv T.e t) (hl : t.out.length ≤ 2000) (hA : TAt T id t f W X0 a Z P0 M A s)
include h hid hI hl hA
theorem TAt.good : Good f := by
  rw [hA.f_is]; exact (add_upto h.good h.built hid hl hI.right.zero t.out.length (Nat.le_refl _)).1
omit h hid hI hl in
theorem TAt.old {i : Nat} {x : El} (hx : T.e[i]? = some x) : ∃ y, f[i]? = some y ∧ y.name = x.name ∧ y.byte = x.byte := by
  obtain ⟨y, h1, h2, h3, _⟩ := addN_old (id := id) (ops := t.out) (k := t.out.length) hx
  rw [← hA.f_is] at h1
  exact ⟨y, h1, h2, h3⟩
omit hid hI hl in
theorem TAt.next (hq : (seenE T.e)[t.at_]? = some q) : ∃ Z1 Z2, Z = Z1 ++ q :: Z2 ∧ goneAt f q = false ∧ Z1.filter (fun i => !goneAt f i) = [] ∧ Z2.filter (fun i => !goneAt f i) = (seenE T.e).drop (t.at_ + 1) ∧ (seenE T.e).drop t.at_ = q :: (seenE T.e).drop (t.at_ + 1) := by
  obtain ⟨hlt, he⟩ := List.getElem?_eq_some_iff.1 hq
  have hdr : (seenE T.e).drop t.at_ = q :: (seenE T.e).drop (t.at_ + 1) := by rw [List.drop_eq_getElem_cons hlt, he]
  have hm : q ∈ Z.filter (fun i => !goneAt f i) := by rw [hA.rest, hdr]; simp
  obtain ⟨hqZ, hqg⟩ := List.mem_filter.1 hm
  obtain ⟨Z1, Z2, hZ⟩ := List.append_of_mem hqZ
  have hrest := hA.rest
  rw [hZ, List.filter_append, List.filter_cons, if_pos hqg, hdr] at hrest
  have hnd := h.good.nodup
  rw [hA.base, hZ] at hnd
  have hnd2 : (Z1 ++ q :: Z2).Nodup := (List.nodup_cons.1 (List.nodup_append.1 hnd).2.1).2
  have hZ1 : Z1.filter (fun i => !goneAt f i) = [] := by
    cases hc : Z1.filter (fun i => !goneAt f i) with
    | nil => rfl
    | cons c r =>
      rw [hc] at hrest
      simp only [List.cons_append, List.cons.injEq] at hrest
      have hcm : c ∈ Z1 := (List.mem_filter.1 (by rw [hc]; simp : c ∈ Z1.filter (fun i => !goneAt f i))).1
      exact ((List.nodup_append.1 hnd2).2.2 c hcm q (by simp) hrest.1).elim
  rw [hZ1] at hrest
  simp only [List.nil_append, List.cons.injEq, true_and] at hrest
  exact ⟨Z1, Z2, hZ, by simpa using hqg, hZ1, hrest, hdr⟩
omit hid hI hl in
theorem TAt.keep (hq : (seenE T.e)[t.at_]? = some q) : ∃ X0' Z' P0' A' s', TAt T id (stepO T.e t .keep) f (W ++ [q]) X0' q Z' P0' [] A' s' := by
  obtain ⟨Z1, Z2, hZ, hqg, hZ1, hZ2, _⟩ := hA.next h hq
  subst hZ
  have hord : orderE T.e = (X0 ++ a :: Z1) ++ q :: Z2 := by rw [hA.base]; simp
  obtain ⟨A', z, hA1, hA2, hA3, hA4, hA5, hcase⟩ := gap_first h hord (seen_lt h.good.down (List.mem_of_getElem? hq))
  refine ⟨X0 ++ a :: Z1, Z2, P0 ++ a :: (M ++ Z1), A', (gapAt T.e q).2, {
    f_is := hA.f_is
    base := hord
    a_is := ?_
    order := by rw [hA.order]; simp
    vis := ?_
    rest := hZ2
    right := fun z hz => hA.right z (by simp [hz])
    left := fun z hz => hA.left z (by
      have := List.mem_of_mem_tail hz
      cases Z1 <;> simp [this])
    gapA := ⟨rfl, hA1, hA4⟩
    where_ := ?_
    gap := ?_
    run := fun h => (by cases h) }⟩
  · show q = gapI T.e ((t.at_ + 1 : Nat) : Int)
    rw [gapI, if_neg (by omega), show (((t.at_ + 1 : Nat) : Int) - 1).toNat = t.at_ by omega, hq]; rfl
  · have e : (P0 ++ a :: (M ++ Z1)) ++ [q] = (P0 ++ a :: M) ++ (Z1 ++ [q]) := by simp
    show ((P0 ++ a :: (M ++ Z1)) ++ [q]).filter _ = _
    rw [e, List.filter_append, hA.vis, List.filter_append, hZ1]
    simp [hqg]
  · rcases hcase with ⟨h1, h2, _⟩ | ⟨h1, _, Y, h2⟩
    · exact .inl ⟨h1, h2⟩
    · exact .inr ⟨h1, Y, h2⟩
  · rcases hcase with ⟨h1, h2, h3⟩ | ⟨h1, h3, Y, h2⟩
    · subst h2
      obtain ⟨y, hy, hyr⟩ := hA.right A' (by simp) z hA2
      rw [h3] at hyr
      exact ⟨y, hy, fun c hc => by rw [h1] at hc; simp [sd, hyr] at hc, fun _ => by rw [hyr]; rfl⟩
    · subst h2
      obtain ⟨y, hy, hyl⟩ := hA.left A' (by cases Z1 <;> simp) z hA2
      rw [h3] at hyl
      exact ⟨y, hy, fun c hc => by rw [h1] at hc; simp [sd, hyl] at hc, fun h4 => by rw [h1] at h4; cases h4⟩
theorem TAt.cut (hq : (seenE T.e)[t.at_]? = some q) : TAt T id (stepO T.e t .cut) (goneE f q) W X0 a Z P0 M A s := by
  have hg := hA.good h hid hI hl
  obtain ⟨Z1, Z2, hZ, hqg, hZ1, hZ2, hdr⟩ := hA.next h hq
  have hqm := List.mem_of_getElem? hq
  obtain ⟨z, hz⟩ : ∃ z, T.e[q]? = some z := ⟨_, List.getElem?_eq_getElem (seen_lt h.good.down hqm)⟩
  obtain ⟨yq, hyq, hyn, _⟩ := hA.old hz
  have hown := h.good.ownF hz
  have hat : atE f (res id (nm T.e q)) = some q := by
    have := hg.find hyq
    rw [hyn] at this
    rw [nm_at hz, res, if_neg (by rw [hown]; decide)]; exact this
  have hnf := hg.nodup
  rw [hA.order] at hnf
  have hqZ : q ∈ Z := by rw [hZ]; simp
  have hqn : q ∉ P0 ++ a :: M := fun hm => by
    have e : P0 ++ a :: (M ++ Z) = (P0 ++ a :: M) ++ Z := by simp
    rw [e] at hnf
    exact (List.nodup_append.1 hnf).2.2 q hm q hqZ rfl
  have hout : (stepO T.e t .cut).out = t.out ++ [⟨2, false, nm T.e q, 0⟩] := by
    show t.out ++ cutOps T.e t.at_ 1 = _
    rw [cutOps_one hq]
  have hfield : ∀ {i : Nat} {y : El}, f[i]? = some y → ∃ y', (goneE f q)[i]? = some y' ∧ y'.right = y.right ∧ y'.left = y.left := fun {i y} hy => by
    refine ⟨if i = q then { y with gone := true } else y, by rw [gone_at, hy]; rfl, ?_, ?_⟩ <;> split <;> rfl
  have hwk : walkE (goneE f q) = walkE f := funext fun i => gone_walk
  refine {
    f_is := ?_
    base := hA.base
    a_is := hA.a_is
    order := by rw [← hA.order]; exact congrFun hwk 0
    vis := ?_
    rest := ?_
    right := fun z hz x hx => by
      obtain ⟨y, hy, hyr⟩ := hA.right z hz x hx
      obtain ⟨y', h1, h2, _⟩ := hfield hy
      exact ⟨y', h1, h2.trans hyr⟩
    left := fun z hz x hx => by
      obtain ⟨y, hy, hyr⟩ := hA.left z hz x hx
      obtain ⟨y', h1, _, h2⟩ := hfield hy
      exact ⟨y', h1, h2.trans hyr⟩
    gapA := hA.gapA
    where_ := hA.where_
    gap := ?_
    run := fun h => (by cases h) }
  · rw [hout]
    rw [List.length_append, List.length_singleton, addN_at (x := ⟨2, false, nm T.e q, 0⟩) (by simp), addN_app (Nat.le_refl _), ← hA.f_is, step_del hat rfl]
  · rw [← hA.vis]
    refine List.filter_congr fun i hi => ?_
    rw [gone_is, decide_eq_false (fun e : i = q => hqn (by rw [← e]; exact hi)), Bool.false_or]
  · have e : Z.filter (fun i => !goneAt (goneE f q) i) = (Z.filter (fun i => !goneAt f i)).filter (fun i => !decide (i = q)) := by
      rw [List.filter_filter]
      refine List.filter_congr fun i _ => ?_
      rw [gone_is]; simp [Bool.not_or]
    rw [e, hA.rest, hdr, List.filter_cons, if_neg (by simp)]
    show _ = (seenE T.e).drop (t.at_ + 1)
    refine List.filter_eq_self.2 fun i hi => ?_
    have hnd : ((seenE T.e).drop t.at_).Nodup := List.Nodup.sublist (List.drop_sublist _ _) h.good.seen_nodup
    rw [hdr] at hnd
    have := (List.nodup_cons.1 hnd).1
    simp only [Bool.not_eq_true', decide_eq_false_iff_not]
    rintro rfl; exact this hi
  · obtain ⟨y, hy, hn, hw⟩ := hA.gap
    obtain ⟨y', h1, h2, h3⟩ := hfield hy
    refine ⟨y', h1, fun c hc => ?_, fun hs => by rw [h2, hwk]; exact hw hs⟩
    obtain ⟨j, hj, hjl⟩ := hn c (by unfold sd at hc ⊢; cases s <;> simp_all)
    exact ⟨j, by rw [gone_nm]; exact hj, by rw [hout, List.length_append, List.length_singleton]; omega⟩
omit h hid hI hl in
/-- One element more, behind what was put into the gap. -/
theorem TAt.grown (hg : Good f) {B : Nat} {s2 : Bool} {y : UInt8} {op : OpD} {t' : StS} (ht : t'.out = t.out ++ [op] ∧ t'.kept = t.kept ∧ t'.at_ = t.at_) (hB : B < f.length)
    (hf : growE f B s2 ⟨false, id, (t.out.length : Int) + 1⟩ y = addN id (t.out ++ [op]) T.e (t.out ++ [op]).length)
    (ho : orderE (growE f B s2 ⟨false, id, (t.out.length : Int) + 1⟩ y) = P0 ++ a :: ((M ++ [f.length]) ++ Z)) (hZ : ∀ z ∈ Z, z = B → s2 = true ∧ z ∉ Z.tail)
    (hgap : ∃ yA, (growE f B s2 ⟨false, id, (t.out.length : Int) + 1⟩ y)[A]? = some yA ∧ (∀ c ∈ sd yA s, c = f.length ∨ (c < f.length ∧ ∃ j : Int, nm f c = ⟨false, id, j⟩ ∧ j ≤ (t.out.length : Int))) ∧ (s = false → yA.right.flatMap (walkE (growE f B s2 ⟨false, id, (t.out.length : Int) + 1⟩ y)) = M ++ [f.length])) :
    TAt T id t' (growE f B s2 ⟨false, id, (t.out.length : Int) + 1⟩ y) (W ++ [f.length]) X0 a Z P0 (M ++ [f.length]) A s := by
  obtain ⟨ht1, ht2, ht3⟩ := ht
  have hin : ∀ i ∈ P0 ++ a :: (M ++ Z), i < f.length := fun i hi => order_lt hg.down (by rw [hA.order]; exact hi)
  have hgn : ∀ i, i < f.length → goneAt (growE f B s2 ⟨false, id, (t.out.length : Int) + 1⟩ y) i = goneAt f i := fun i hi => by
    obtain ⟨x, hx⟩ : ∃ x, f[i]? = some x := ⟨_, List.getElem?_eq_getElem hi⟩
    rw [goneAt_at (grow_old hx), goneAt_at hx]
    split
    · exact (more_same x _ _ _).2.2
    · rfl
  have hnew := grow_new (left := s2) (r := ⟨false, id, (t.out.length : Int) + 1⟩) (b := y) hB
  refine {
    f_is := by rw [ht1]; exact hf
    base := hA.base
    a_is := by rw [ht2]; exact hA.a_is
    order := ho
    vis := ?_
    rest := ?_
    right := fun z hz x hx => ?_
    left := fun z hz x hx => ?_
    gapA := hA.gapA
    where_ := hA.where_
    gap := ?_
    run := fun _ => ⟨M, f.length, _, rfl, by rw [grow_length], hnew, rfl, by rw [ht1, List.length_append, List.length_singleton]; simp⟩ }
  · have e : P0 ++ a :: (M ++ [f.length]) = (P0 ++ a :: M) ++ [f.length] := by simp
    rw [e, List.filter_append, ← hA.vis]
    congr 1
    · refine List.filter_congr fun i hi => ?_
      rw [hgn i (hin i (by simp at hi ⊢; rcases hi with h | h | h <;> simp [h]))]
    · rw [List.filter_cons, if_pos (by rw [goneAt_at hnew]; rfl)]; rfl
  · rw [ht3, ← hA.rest]
    refine List.filter_congr fun i hi => ?_
    rw [hgn i (hin i (by simp [hi]))]
  · obtain ⟨w, hw, hwr⟩ := hA.right z hz x hx
    refine ⟨_, grow_old hw, ?_⟩
    split
    · rename_i hzB
      obtain ⟨hs2, _⟩ := hZ z hz hzB
      rw [El.more, if_pos hs2]; exact hwr
    · exact hwr
  · obtain ⟨w, hw, hwr⟩ := hA.left z hz x hx
    refine ⟨_, grow_old hw, ?_⟩
    rw [if_neg fun hzB => (hZ z (List.mem_of_mem_tail hz) hzB).2 hz]; exact hwr
  · obtain ⟨yA, h1, h2, h3⟩ := hgap
    refine ⟨yA, h1, fun c hc => ?_, h3⟩
    rw [grow_nm hB, ht1, List.length_append, List.length_singleton]
    rcases h2 c hc with rfl | ⟨hc2, j, hj, hjl⟩
    · exact ⟨(t.out.length : Int) + 1, by rw [if_pos rfl], by omega⟩
    · exact ⟨j, by rw [if_neg (by omega)]; exact hj, by omega⟩
end
end Go.Fu
