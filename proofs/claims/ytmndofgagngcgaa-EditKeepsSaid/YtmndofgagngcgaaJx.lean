/- What the operations of a script make of a tree. Plain. -/
import Derived.Test.YtmndofgagngcgaaJw
set_option linter.unusedSimpArgs false
set_option linter.unusedVariables false
namespace Go.Fu
open Go.Pl Go.Fw
section
variable {L : Coms} {T : Tr} {id : Dig} {t : StS} {f : List El} {W X0 Z P0 M : List Nat} {a A q : Nat} {s : Bool}
  (h : TreeOk L T) (hid : id ∉ L.map (·.1)) (hI : RInv T.e t) (hl : t.out.length ≤ 2000) (hA : TAt T id t f W X0 a Z P0 M A s)
include h hid hI hl hA
/-- A run begins. -/
theorem TAt.put1 (hk : t.kept ≤ (seenE T.e).length) (hr : ¬ t.run = true) (y : UInt8) : TAt T id (stepO T.e t (.put y)) (growE f A s ⟨false, id, (t.out.length : Int) + 1⟩ y) (W ++ [f.length]) X0 a Z P0 (M ++ [f.length]) A s ∧ A < f.length := by
  have hg := hA.good h hid hI hl
  obtain ⟨e1, e2⟩ := gap_at h hk
  obtain ⟨hs, hAt, hown⟩ := hA.gapA
  obtain ⟨zA, hzA, hzn, _⟩ := atE_some.1 hAt
  obtain ⟨y0, hy0, hyn, _⟩ := hA.old hzA
  have hB := (List.getElem?_eq_some_iff.1 hy0).1
  have hat : atE f (res id (gapAt T.e a).1) = some A := by
    have := hg.find hy0
    rw [hyn, hzn] at this
    rw [res, if_neg (by rw [hown]; decide)]; exact this
  have hout : (stepO T.e t (.put y)).out = t.out ++ [⟨1, s, (gapAt T.e a).1, y⟩] := by
    show t.out ++ [putOp T.e t y] = _
    rw [putOp, if_neg hr, e1, e2, ← hA.a_is, hs]
  have hf : growE f A s ⟨false, id, (t.out.length : Int) + 1⟩ y = addN id (t.out ++ [(⟨1, s, (gapAt T.e a).1, y⟩ : OpD)]) T.e (t.out ++ [(⟨1, s, (gapAt T.e a).1, y⟩ : OpD)]).length := by
    rw [List.length_append, List.length_singleton, addN_at (x := ⟨1, s, (gapAt T.e a).1, y⟩) (by simp), addN_app (Nat.le_refl _), ← hA.f_is, step_ins hat rfl]
  obtain ⟨yA, hyA, hnames, hwalk⟩ := hA.gap
  have hkid : kid f ⟨false, id, (t.out.length : Int) + 1⟩ (sd yA s) = sd yA s ++ [f.length] := kid_end fun c hc => by
    obtain ⟨j, hj, hjl⟩ := hnames c hc
    exact ⟨j, hj, by omega⟩
  have hnf := hg.nodup
  have hdn := hg.down A yA hyA
  have hnl : f.length ∉ orderE f := fun hm => by have := order_lt hg.down hm; omega
  refine ⟨hA.grown hg ⟨hout, rfl, rfl⟩ hB hf ?_ ?_ ?_, hB⟩
  · rcases hA.where_ with ⟨hs0, hAa⟩ | ⟨hs1, Y, hY⟩
    · subst hs0; subst hAa
      obtain ⟨u, w, huw⟩ : ∃ u w, A :: M = u ++ [w] := ⟨_, _, (List.dropLast_concat_getLast (l := A :: M) (by simp)).symm⟩
      have hwf : A :: yA.right.flatMap (walkE f) = u ++ [w] := by rw [hwalk rfl]; exact huw
      have hp := grow_end (b := y) hg.down hB hyA hkid hwf 0 hg.pos
      have hm : orderE f = (P0 ++ u) ++ w :: Z := by
        rw [hA.order]
        have : A :: (M ++ Z) = (A :: M) ++ Z := rfl
        rw [this, huw]; simp
      have hc : (orderE (growE f A false ⟨false, id, (t.out.length : Int) + 1⟩ y)).count f.length = 1 := by
        have h1 := grow_count (left := false) (r := ⟨false, id, (t.out.length : Int) + 1⟩) (b := y) hg.down hB 0 hg.pos
        rw [hg.once hB] at h1; exact h1
      have hpl := place_new (grow_filter hg.down hB 0 hg.pos) (List.count_pos_iff.1 (by rw [hc]; omega)) hc hp hm hnf hnl
      have e : P0 ++ A :: ((M ++ [f.length]) ++ Z) = P0 ++ ((A :: M) ++ (f.length :: Z)) := by simp
      show walkE _ 0 = _
      rw [hpl, e, huw]; simp
    · subst hs1; subst hY
      have h1 := grow_left (b := y) hg.down hB hyA hkid 0 hg.pos
      have hsp : walkE f 0 = (P0 ++ a :: M) ++ A :: Y := by
        have := hA.order
        show orderE f = _
        rw [this]; simp
      show walkE _ 0 = _
      rw [h1, flat_ahead hsp hnf]; simp
  · intro z hz hzA2
    rw [hA.order] at hnf
    rcases hA.where_ with ⟨_, hAa⟩ | ⟨hs1, Y, hY⟩
    · exfalso
      have := (List.nodup_cons.1 (List.nodup_append.1 hnf).2.1).1
      exact this (by rw [← hAa, ← hzA2]; simp [hz])
    · refine ⟨hs1, ?_⟩
      rw [hY] at hnf ⊢
      have h2 : (M ++ A :: Y).Nodup := (List.nodup_cons.1 (List.nodup_append.1 hnf).2.1).2
      have h3 := (List.nodup_cons.1 (List.nodup_append.1 h2).2.1).1
      rw [hzA2]; exact h3
  · refine ⟨_, grow_at hB hyA, ?_, ?_⟩
    · have e : sd (yA.more f s ⟨false, id, (t.out.length : Int) + 1⟩) s = sd yA s ++ [f.length] := by
        rw [← hkid]; unfold sd El.more; cases s <;> rfl
      rw [e]
      intro c hc
      rcases List.mem_append.1 hc with hc | hc
      · refine .inr ⟨?_, hnames c hc⟩
        exact (hdn c (by unfold sd at hc; cases s <;> simp_all)).2
      · simp at hc; exact .inl hc
    · intro hs0
      subst hs0
      have e : (yA.more f false ⟨false, id, (t.out.length : Int) + 1⟩).right = yA.right ++ [f.length] := hkid
      rw [e, List.flatMap_append, List.flatMap_cons, List.flatMap_nil, grow_walk_new hg.down hB]
      rw [flatMap_same (g := walkE f) fun c hc => grow_above hg.down hB c (hdn c (.inr hc)).2 (hdn c (.inr hc)).1, hwalk rfl]; rfl
/-- A run goes on. -/
theorem TAt.put2 (hr : t.run = true) (y : UInt8) : ∃ p, p < f.length ∧ TAt T id (stepO T.e t (.put y)) (growE f p false ⟨false, id, (t.out.length : Int) + 1⟩ y) (W ++ [f.length]) X0 a Z P0 (M ++ [f.length]) A s := by
  have hg := hA.good h hid hI hl
  obtain ⟨M0, p, yp, hM, hp, hyp, hypr, hypn⟩ := hA.run hr
  have hB : p < f.length := by omega
  have hat : atE f (res id ⟨true, Dig.zero, (t.out.length : Int)⟩) = some p := by
    have := hg.find hyp
    rw [hypn] at this
    rw [res, if_pos rfl]; exact this
  have hout : (stepO T.e t (.put y)).out = t.out ++ [⟨1, false, ⟨true, Dig.zero, (t.out.length : Int)⟩, y⟩] := by
    show t.out ++ [putOp T.e t y] = _
    rw [putOp, if_pos hr]
  have hf : growE f p false ⟨false, id, (t.out.length : Int) + 1⟩ y = addN id (t.out ++ [(⟨1, false, ⟨true, Dig.zero, (t.out.length : Int)⟩, y⟩ : OpD)]) T.e (t.out ++ [(⟨1, false, ⟨true, Dig.zero, (t.out.length : Int)⟩, y⟩ : OpD)]).length := by
    rw [List.length_append, List.length_singleton, addN_at (x := ⟨1, false, ⟨true, Dig.zero, (t.out.length : Int)⟩, y⟩) (by simp), addN_app (Nat.le_refl _), ← hA.f_is, step_ins (x := ⟨1, false, ⟨true, Dig.zero, (t.out.length : Int)⟩, y⟩) hat rfl]
  have hkid : kid f ⟨false, id, (t.out.length : Int) + 1⟩ yp.right = f.length :: yp.right := by rw [hypr]; rfl
  have hnf := hg.nodup
  have hsp : walkE f 0 = (P0 ++ a :: M0) ++ p :: Z := by
    have := hA.order
    show orderE f = _
    rw [this, hM]; simp
  have hgr := grow_right (b := y) hg.down hB hyp hkid
  have hnf2 : ((P0 ++ a :: M0) ++ p :: Z).Nodup := by rw [← hsp]; exact hnf
  have hpZ : p ∉ Z := (List.nodup_cons.1 (List.nodup_append.1 hnf2).2.1).1
  have hpa : p ∉ P0 ++ a :: M0 := fun hm => (List.nodup_append.1 hnf2).2.2 p hm p (by simp) rfl
  have hpA : A ≠ p := by
    rcases hA.where_ with ⟨_, hAa⟩ | ⟨_, Y, hY⟩
    · rintro rfl; exact hpa (by rw [hAa]; simp)
    · rintro rfl; exact hpZ (by rw [hY]; simp)
  obtain ⟨yA, hyA, hnames, hwalk⟩ := hA.gap
  have hdn := hg.down A yA hyA
  refine ⟨p, hB, hA.grown hg ⟨hout, rfl, rfl⟩ hB hf ?_ (fun z hz e => absurd (e ▸ hz) hpZ) ⟨yA, ?_, ?_, ?_⟩⟩
  · show walkE _ 0 = _
    rw [hgr 0 hg.pos, flat_after hsp hnf, hM]; simp
  · rw [grow_else (List.getElem?_eq_some_iff.1 hyA).1 hpA]; exact hyA
  · intro c hc
    refine .inr ⟨?_, hnames c hc⟩
    exact (hdn c (by unfold sd at hc; cases s <;> simp_all)).2
  · intro hs0
    rw [flatMap_flatMap_same fun c hc => hgr c (hdn c (.inr hc)).2, hwalk hs0]
    have hMn : M.Nodup := by
      have h3 := hnf
      rw [hA.order] at h3
      exact (List.nodup_append.1 (List.nodup_cons.1 (List.nodup_append.1 h3).2.1).2).1
    rw [flat_after (l := M) (X := M0) (Y := []) hM hMn, hM]; simp
end
/-! ## All steps -/
def stepW (q : List Nat) (x : Nat × Nat × List Nat) : Stp → Nat × Nat × List Nat
  | .keep => (x.1 + 1, x.2.1, x.2.2 ++ [(q[x.1]?).getD 0])
  | .cut => (x.1 + 1, x.2.1, x.2.2)
  | .put _ => (x.1, x.2.1 + 1, x.2.2 ++ [x.2.1])
theorem drop_at {l a : List UInt8} {x : UInt8} {i : Nat} (h : x :: a = l.drop i) : i < l.length ∧ l[i]? = some x ∧ a = l.drop (i + 1) := by
  have hi : i < l.length := by
    rcases Nat.lt_or_ge i l.length with hi | hi
    · exact hi
    · rw [List.drop_of_length_le hi] at h; cases h
  rw [List.drop_eq_getElem_cons hi] at h
  injection h with h1 h2
  exact ⟨hi, by rw [List.getElem?_eq_getElem hi, h1], h2⟩
theorem trans_tree {L : Coms} {T : Tr} {id : Dig} (h : TreeOk L T) (hid : id ∉ L.map (·.1)) {a0 b0 : List UInt8} {ss : List Stp} (hT : Trans a0 b0 ss) : ∀ {t : StS} {f : List El} {W X0 : List Nat} {a : Nat} {Z P0 M : List Nat} {A : Nat} {s : Bool}, RInv T.e t → TAt T id t f W X0 a Z P0 M A s →
    a0 = (textE T.e).drop t.at_ → t.at_ ≤ (seenE T.e).length → t.out.length + (ss.map Stp.cost).sum ≤ 2000 → ∃ f' W' X0' a' Z' P0' M' A' s', TAt T id (ss.foldl (stepO T.e) t) f' W' X0' a' Z' P0' M' A' s' ∧ (seenE T.e).drop (ss.foldl (stepO T.e) t).at_ = [] ∧
      W'.map (byteAt f') = W.map (byteAt f) ++ b0 ∧ (ss.foldl (stepW (seenE T.e)) (t.at_, f.length, W)).2.2 = W' := by
  have htl : (textE T.e).length = (seenE T.e).length := by simp [textE]
  induction hT with
  | nil =>
    intro t f W X0 a Z P0 M A s hI hA ha hat hb
    refine ⟨f, W, X0, a, Z, P0, M, A, s, hA, ?_, by simp, rfl⟩
    have hle : (textE T.e).length ≤ t.at_ := by
      rcases Nat.lt_or_ge t.at_ (textE T.e).length with hi | hi
      · rw [List.drop_eq_getElem_cons hi] at ha; cases ha
      · exact hi
    exact List.drop_of_length_le (by show (seenE T.e).length ≤ t.at_; omega)
  | @keep x a1 b1 ss1 hT ih =>
    intro t f W X0 a Z P0 M A s hI hA ha hat hb
    obtain ⟨h1, h2, h3⟩ := drop_at ha
    obtain ⟨q, hq⟩ : ∃ q, (seenE T.e)[t.at_]? = some q := ⟨_, List.getElem?_eq_getElem (by omega)⟩
    obtain ⟨X0', Z', P0', A', s', hA'⟩ := hA.keep h hq
    have hI' := hI.step h .keep (by show t.at_ + 1 ≤ _; omega)
    have hqm := List.mem_of_getElem? hq
    obtain ⟨z, hz⟩ : ∃ z, T.e[q]? = some z := ⟨_, List.getElem?_eq_getElem (seen_lt h.good.down hqm)⟩
    obtain ⟨y, hy, _, hyb⟩ := hA.old hz
    have hx : byteAt f q = x := by
      rw [byteAt_at hy, hyb, ← byteAt_at hz]
      rw [textE, List.getElem?_map, hq] at h2
      exact Option.some.inj h2
    obtain ⟨f', W', X0', a', Z', P0', M', A', s', r1, r2, r3, r4⟩ := ih hI' hA' h3 (by show t.at_ + 1 ≤ _; omega) (by simp only [List.map_cons, List.sum_cons, Stp.cost] at hb; show t.out.length + _ ≤ _; omega)
    refine ⟨f', W', X0', a', Z', P0', M', A', s', r1, r2, ?_, ?_⟩
    · rw [r3, List.map_append, List.map_cons, List.map_nil, hx]; simp
    · rw [List.foldl_cons]
      have e : stepW (seenE T.e) (t.at_, f.length, W) .keep = (t.at_ + 1, f.length, W ++ [q]) := by simp [stepW, hq]
      rw [e]; exact r4
  | @cut x a1 b1 ss1 hT ih =>
    intro t f W X0 a Z P0 M A s hI hA ha hat hb
    simp only [List.map_cons, List.sum_cons, Stp.cost] at hb
    obtain ⟨h1, h2, h3⟩ := drop_at ha
    obtain ⟨q, hq⟩ : ∃ q, (seenE T.e)[t.at_]? = some q := ⟨_, List.getElem?_eq_getElem (by omega)⟩
    have hA' := hA.cut h hid hI (by omega) hq
    have hI' := hI.step h .cut (by show t.at_ + 1 ≤ _; omega)
    have hol : (stepO T.e t .cut).out.length = t.out.length + 1 := by
      show (t.out ++ cutOps T.e t.at_ 1).length = _
      rw [cutOps_one hq]; simp
    obtain ⟨f', W', X0', a', Z', P0', M', A', s', r1, r2, r3, r4⟩ := ih hI' hA' h3 (by show t.at_ + 1 ≤ _; omega) (by rw [hol]; omega)
    refine ⟨f', W', X0', a', Z', P0', M', A', s', r1, r2, ?_, ?_⟩
    · rw [r3, show byteAt (goneE f q) = byteAt f from funext fun i => gone_byte]
    · rw [gone_length] at r4
      exact r4
  | @put y a1 b1 ss1 hT ih =>
    intro t f W X0 a Z P0 M A s hI hA ha hat hb
    simp only [List.map_cons, List.sum_cons, Stp.cost] at hb
    have hg := hA.good h hid hI (by omega)
    have hI' := hI.step h (.put y) (by show t.at_ + 0 ≤ _; omega)
    have hk := hI.kept
    obtain ⟨B, s2, hB, hA'⟩ : ∃ B s2, B < f.length ∧ TAt T id (stepO T.e t (.put y)) (growE f B s2 ⟨false, id, (t.out.length : Int) + 1⟩ y) (W ++ [f.length]) X0 a Z P0 (M ++ [f.length]) A s := by
      by_cases hr : t.run = true
      · obtain ⟨p, h1, h2⟩ := hA.put2 h hid hI (by omega) hr y
        exact ⟨p, false, h1, h2⟩
      · obtain ⟨h1, h2⟩ := hA.put1 h hid hI (by omega) (by omega) hr y
        exact ⟨A, s, h2, h1⟩
    have hol : (stepO T.e t (.put y)).out.length = t.out.length + 1 := by show (t.out ++ [putOp T.e t y]).length = _; simp
    obtain ⟨f', W', X0', a', Z', P0', M', A', s', r1, r2, r3, r4⟩ := ih hI' hA' ha hat (by rw [hol]; omega)
    refine ⟨f', W', X0', a', Z', P0', M', A', s', r1, r2, ?_, ?_⟩
    · have hWb : W.map (byteAt (growE f B s2 ⟨false, id, (t.out.length : Int) + 1⟩ y)) = W.map (byteAt f) := List.map_congr_left fun i hi => by
        have hio : i ∈ orderE f := by
          rw [← hA.vis] at hi
          have := (List.mem_filter.1 hi).1
          rw [hA.order]
          simp at this ⊢
          rcases this with h | h | h <;> simp [h]
        obtain ⟨x, hx⟩ : ∃ x, f[i]? = some x := ⟨_, List.getElem?_eq_getElem (order_lt hg.down hio)⟩
        rw [byteAt_at (grow_old hx), byteAt_at hx]
        split
        · exact (more_same x _ _ _).2.1
        · rfl
      rw [r3, List.map_append, hWb, List.map_cons, List.map_nil, byteAt_at (grow_new hB)]; simp
    · rw [grow_length] at r4
      exact r4
/-- A tree to which a script's operations are added shows the text, and what of it was kept is what stood there. -/
theorem ops_tree {L : Coms} {T : Tr} {id : Dig} (h : TreeOk L T) {b : List UInt8} (hw : wrongC T id (opsE T.e b) = 0) :
    textE (addT T id (opsE T.e b)).e = b ∧ seenE (addT T id (opsE T.e b)).e = ((stp (textE T.e) b).foldl (stepW (seenE T.e)) (0, T.e.length, [])).2.2 := by
  obtain ⟨hid, hlen, _, _⟩ := wrongC_zero hw
  rw [show T.ad = L.map (·.1) from h.ads] at hid
  obtain ⟨X, Y, ho, ha, hX, hY⟩ := gap_split h (n := 0) (Nat.zero_le _)
  obtain ⟨A, z, hA1, hA2, hA3, hA4, hA5, hcase⟩ := gap_first h ho ha
  have hvis : (X ++ gapI T.e ((0 : Nat) : Int) :: []).filter (fun i => !goneAt T.e i) = [] := by
    have h1 : shown T.e (X ++ [gapI T.e ((0 : Nat) : Int)]) = [] := by rw [hX]; rfl
    exact List.map_eq_nil_iff.1 h1
  have hI := RInv.start T.e
  have hA : TAt T id st0 T.e [] X (gapI T.e ((0 : Nat) : Int)) Y X [] A (gapAt T.e (gapI T.e ((0 : Nat) : Int))).2 := {
    f_is := rfl
    base := ho
    a_is := rfl
    order := ho
    vis := hvis
    rest := by
      show _ = seenE T.e
      have e : X ++ gapI T.e ((0 : Nat) : Int) :: Y = (X ++ gapI T.e ((0 : Nat) : Int) :: []) ++ Y := by simp
      rw [seenE, ho, e, List.filter_append, hvis]; rfl
    right := fun z _ x hx => ⟨x, hx, rfl⟩
    left := fun z _ x hx => ⟨x, hx, rfl⟩
    gapA := ⟨rfl, hA1, hA4⟩
    where_ := by
      rcases hcase with ⟨h1, h2, _⟩ | ⟨h1, _, Y', h2⟩
      · exact .inl ⟨h1, h2⟩
      · exact .inr ⟨h1, Y', h2⟩
    gap := by
      refine ⟨z, hA2, fun c hc => ?_, fun hs => ?_⟩
      · rcases hcase with ⟨h1, _, h3⟩ | ⟨h1, h3, _⟩
        · rw [h1] at hc; simp [sd, h3] at hc
        · rw [h1] at hc; simp [sd, h3] at hc
      · rcases hcase with ⟨_, _, h3⟩ | ⟨h1, _⟩
        · rw [h3]; rfl
        · rw [h1] at hs; cases hs
    run := fun h => (by cases h) }
  have hcst : ((stp (textE T.e) b).map Stp.cost).sum ≤ 2000 := by rw [stp_cost, ← ops_length]; exact hlen
  obtain ⟨f', W', X0', a', Z', P0', M', A', s', r1, r2, r3, r4⟩ := trans_tree h hid (stp_trans (textE T.e) b) hI hA rfl (Nat.zero_le _) (by simpa [st0] using hcst)
  have hf : (addT T id (opsE T.e b)).e = f' := by
    rw [addT, if_pos hw, r1.f_is, ← ops_steps]
  have hs : seenE f' = W' := by
    rw [seenE, r1.order]
    have e : P0' ++ a' :: (M' ++ Z') = (P0' ++ a' :: M') ++ Z' := by simp
    rw [e, List.filter_append, r1.vis, r1.rest, r2]; simp
  rw [hf]
  exact ⟨by rw [textE, hs, r3]; rfl, by rw [hs]; exact r4.symm⟩
/-- What Add may say of a script's operations. -/
theorem ops_wrong {L : Coms} {T : Tr} {id : Dig} (h : TreeOk L T) (b : List UInt8) : wrongC T id (opsE T.e b) = 0 ∨ wrongC T id (opsE T.e b) = 6 ∨ wrongC T id (opsE T.e b) = 4 := by
  unfold wrongC
  split
  · exact .inr (.inl rfl)
  · split
    · exact .inr (.inr rfl)
    · exact .inl (ops_right h b)
end Go.Fu
