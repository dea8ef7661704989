/- The plain laws of graphs: a list that grows, or is laid in another order. No condition; no program. -/
import Derived.Test.YtecolkngbcgmcaaHj
set_option linter.unusedSimpArgs false
set_option linter.unusedVariables false
namespace Go.Pl
open Go.Fw
theorem fwrong_all : ∀ {l : List Nd} {a : List Dig} {i : Nat}, (∀ j n, l[j]? = some n → wrongE (a ++ idsL (l.take j)) n = 0) → (fwrong l a i).2 = 0
  | [], _, _, _ => rfl
  | x :: r, a, i, h => by
    have h0 : wrongE a x = 0 := by simpa using h 0 x rfl
    rw [fwrong, if_pos h0]
    exact fwrong_all fun j n hj => by
      have := h (j + 1) n (by simpa using hj)
      simpa [idsL] using this
theorem readE_all {l : List Nd} (hl : l.length ≤ 200) (h : ∀ j n, l[j]? = some n → wrongE (idsL (l.take j)) n = 0) : (readE l).2 = 0 := by
  rw [readE, if_neg (by omega)]
  exact fwrong_all fun j n hj => by simpa using h j n hj
theorem wrongE_zero {ahead : List Dig} {n : Nd} (h1 : n.ps.length ≤ 8) (h2 : risB n.ps = true) (h3 : n.id ∉ ahead) (h4 : ∀ p ∈ n.ps, p ∈ ahead) : wrongE ahead n = 0 := by
  rw [wrongE, if_neg (by omega), if_neg (by rw [h2]; decide), if_neg h3, if_neg]
  rintro ⟨p, hp, hn⟩
  exact hn (h4 p hp)
/-- What the nodes of l are in m as well. -/
structure Grow (l m : List Nd) : Prop where
  okl : (readE l).2 = 0
  okm : (readE m).2 = 0
  sub : ∀ d ∈ idsL l, d ∈ idsL m
  par : ∀ d ∈ idsL l, parD m d = parD l d
section
variable {l m : List Nd} (g : Grow l m)
include g
theorem Grow.up {a d : Dig} (h : Ab l a d) : a ∈ idsL l → Ab m a d := by
  induction h with
  | refl d => exact fun _ => .refl _
  | @step n p d hn hp _ ih =>
    intro ha
    have hpi : p ∈ idsL l := by
      obtain ⟨j, hj⟩ := List.mem_iff_getElem?.1 hn
      exact (ix_par g.okl hj hp).1
    obtain ⟨n', hn', e⟩ := List.mem_map.1 (g.sub _ ha)
    have e2 : n'.ps = n.ps := by rw [← parD_mem g.okm hn', e, g.par _ ha, parD_mem g.okl hn]
    rw [← e]
    exact .step hn' (by rw [e2]; exact hp) (ih hpi)
theorem Grow.down {a d : Dig} (h : Ab m a d) : a ∈ idsL l → Ab l a d := by
  induction h with
  | refl d => exact fun _ => .refl _
  | @step n p d hn hp _ ih =>
    intro ha
    obtain ⟨n', hn', e⟩ := List.mem_map.1 ha
    have e2 : n'.ps = n.ps := by rw [← parD_mem g.okl hn', e, ← g.par _ ha, parD_mem g.okm hn]
    have hp' : p ∈ n'.ps := by rw [e2]; exact hp
    have hpi : p ∈ idsL l := by
      obtain ⟨j, hj⟩ := List.mem_iff_getElem?.1 hn'
      exact (ix_par g.okl hj hp').1
    rw [← e]
    exact .step hn' hp' (ih hpi)
theorem Grow.ab {a d : Dig} (ha : a ∈ idsL l) : Ab m a d ↔ Ab l a d := ⟨fun h => g.down h ha, fun h => g.up h ha⟩
theorem Grow.under {ids : List Dig} (hin : ∀ d ∈ ids, d ∈ idsL l) {d : Dig} : Under m ids d ↔ Under l ids d := by
  constructor
  · rintro ⟨a, ha, h⟩; exact ⟨a, ha, (g.ab (hin a ha)).1 h⟩
  · rintro ⟨a, ha, h⟩; exact ⟨a, ha, (g.ab (hin a ha)).2 h⟩
theorem Grow.hin {ids : List Dig} (h : ∀ d ∈ ids, d ∈ idsL l) : ∀ d ∈ ids, d ∈ idsL m := fun d hd => g.sub d (h d hd)
theorem Grow.head {X Y : Dig → Prop} (hX : ∀ d, X d → d ∈ idsL l) (hXY : ∀ d, X d ↔ Y d) {d : Dig} : IsHead m X d ↔ IsHead l Y d := by
  constructor
  · rintro ⟨h1, h2⟩
    exact ⟨(hXY d).1 h1, fun e he hed => h2 e ((hXY e).2 he) (g.up hed (hX e ((hXY e).2 he)))⟩
  · rintro ⟨h1, h2⟩
    exact ⟨(hXY d).2 h1, fun e he hed => h2 e ((hXY e).1 he) (g.down hed (hX e he))⟩
theorem Grow.hdL {ids : List Dig} (hi : ∀ d ∈ ids, d ∈ idsL l) : hdL m ids = hdL l ids :=
  up_eq (heads_up g.okm) (heads_up g.okl) fun d => by
    rw [hdL_mem g.okm (g.hin hi), hdL_mem g.okl hi]
    exact g.head hi fun d => Iff.rfl
theorem Grow.cmL {a b : List Dig} (ha : ∀ d ∈ a, d ∈ idsL l) (hb : ∀ d ∈ b, d ∈ idsL l) : cmL m a b = cmL l a b :=
  up_eq (heads_up g.okm) (heads_up g.okl) fun d => by
    rw [cmL_mem g.okm (g.hin ha) (g.hin hb), cmL_mem g.okl ha hb]
    exact g.head (fun d hd => under_ids g.okl ha ((g.under ha).1 hd.1)) fun d => and_congr (g.under ha) (g.under hb)
theorem Grow.above {ids : List Dig} (hi : ∀ d ∈ ids, d ∈ idsL l) : aboveL m ids = aboveL l ids :=
  up_eq (above_up g.okm) (above_up g.okl) fun d => by rw [above_mem g.okm (g.hin hi), above_mem g.okl hi, g.under hi]
theorem Grow.may {out : List Dig} {d : Dig} (hd : d ∈ idsL l) : mayQ m out d = mayQ l out d := by rw [mayQ, mayQ, g.par d hd]
theorem Grow.orderQ {all : List Dig} (hall : ∀ d ∈ all, d ∈ idsL l) : ∀ {k : Nat} {out : List Dig}, orderQ m all k out = orderQ l all k out
  | 0, _ => rfl
  | k + 1, out => by
    have e : nextQ m all out = nextQ l all out := by
      unfold nextQ
      have key : ∀ {xs : List Dig}, (∀ d ∈ xs, d ∈ idsL l) → xs.find? (mayQ m out) = xs.find? (mayQ l out) := by
        intro xs
        induction xs with
        | nil => intro _; rfl
        | cons x xs ih =>
          intro hx
          rw [List.find?_cons, List.find?_cons, g.may (hx x (by simp)), ih (fun d hd => hx d (by simp [hd]))]
      exact key hall
    cases hn : nextQ l all out with
    | none => rw [orderQ_none hn, orderQ_none (e.trans hn)]
    | some d => rw [orderQ_some hn, orderQ_some (e.trans hn), Grow.orderQ hall]
end
theorem orderQ_stable {l : List Nd} {all : List Dig} : ∀ {k : Nat} {out : List Dig}, Came l all out → all.length < k + out.length → orderQ l all (k + 1) out = orderQ l all k out
  | 0, out, hc, hk => by have := hc.le; omega
  | k + 1, out, hc, hk => by
    cases hn : nextQ l all out with
    | none => rw [orderQ_none hn, orderQ_none hn]
    | some d =>
      rw [orderQ_some hn, orderQ_some hn]
      exact orderQ_stable (hc.more hn) (by rw [List.length_append, List.length_singleton]; omega)
theorem orderQ_fuel {l : List Nd} {all : List Dig} {k : Nat} (hk : all.length < k) : ∀ {j : Nat}, orderQ l all (k + j) [] = orderQ l all k []
  | 0 => rfl
  | j + 1 => by rw [← Nat.add_assoc, orderQ_stable Came.nil (by simp; omega), orderQ_fuel hk]
section
variable {l m : List Nd} (g : Grow l m)
include g
theorem Grow.ordL {ids : List Dig} (hi : ∀ d ∈ ids, d ∈ idsL l) : ordL m ids = ordL l ids := by
  have h1 : ∀ d ∈ aboveL l ids, d ∈ idsL l := fun d hd => under_ids g.okl hi ((above_mem g.okl hi).1 hd)
  have h2 := above_length (l := l) (ids := ids)
  have h3 := above_length (l := m) (ids := ids)
  rw [g.above hi] at h3
  rw [Go.Pl.ordL, Go.Pl.ordL, g.above hi, g.orderQ h1]
  rcases Nat.le_total l.length m.length with h | h
  · rw [show m.length + 1 = (l.length + 1) + (m.length - l.length) by omega]
    exact orderQ_fuel (k := l.length + 1) (by omega)
  · rw [show l.length + 1 = (m.length + 1) + (l.length - m.length) by omega]
    exact (orderQ_fuel (k := m.length + 1) (by omega)).symm
theorem Grow.lacksL {a b : List Dig} (ha : ∀ d ∈ a, d ∈ idsL l) (hb : ∀ d ∈ b, d ∈ idsL l) : lacksL m a b = lacksL l a b := by
  rw [lacks_eq g.okm (g.hin ha) (g.hin hb), lacks_eq g.okl ha hb, g.ordL ha, g.above hb]
end
/-! ## The list in the order of all its IDs -/
theorem sorted_grow {l m : List Nd} (h : (readE l).2 = 0) (hm : idsL m = ordL l (idsL l)) (hs : ∀ n ∈ m, n ∈ l) : Grow l m ∧ ∀ d ∈ idsL m, d ∈ idsL l := by
  have hin : ∀ d ∈ idsL l, d ∈ idsL l := fun d hd => hd
  obtain ⟨hc, hall⟩ := ordL_came h hin
  have hsub : ∀ d ∈ idsL l, d ∈ idsL m := fun d hd => by
    rw [hm]; exact hall d ((above_mem h hin).2 ⟨d, hd, .refl _⟩)
  have hlen : m.length ≤ 200 := by
    have h1 : (idsL m).length ≤ (idsL l).length := by
      rw [hm]
      exact nodup_le hc.once fun d hd => under_ids h hin ((above_mem h hin).1 (hc.isin d hd))
    simp only [List.length_map] at h1
    have := ok_len h
    omega
  have okm : (readE m).2 = 0 := readE_all hlen fun j n hj => by
    have hn := hs n (List.mem_of_getElem? hj)
    obtain ⟨i, hi⟩ := List.mem_iff_getElem?.1 hn
    obtain ⟨h1, h2, _, _⟩ := wrong_ok (ok_at h hi)
    have hjo : (ordL l (idsL l))[j]? = some n.id := by rw [← hm]; exact ids_at hj
    have ht : idsL (m.take j) = (ordL l (idsL l)).take j := by rw [← hm]; simp [idsL, List.map_take]
    rw [ht]
    refine wrongE_zero h1 h2 (not_before hc.once hjo) fun p hp => hc.par j n.id hjo p ?_
    rw [parD_mem h hn]; exact hp
  refine ⟨⟨h, okm, hsub, fun d hd => ?_⟩, fun d hd => ?_⟩
  · obtain ⟨n, hn, e⟩ := List.mem_map.1 (hsub d hd)
    rw [← e, parD_mem okm hn, parD_mem h (hs n hn)]
  · obtain ⟨n, hn, e⟩ := List.mem_map.1 hd
    exact e ▸ List.mem_map.2 ⟨n, hs n hn, rfl⟩
theorem wrongQ_same {l m : List Nd} (okl : (readE l).2 = 0) (okm : (readE m).2 = 0) (h : ∀ d, d ∈ idsL m ↔ d ∈ idsL l) {ids : List Dig} : wrongQ m ids = wrongQ l ids := by
  unfold wrongQ
  rw [okl, okm]
  have e : (∃ d ∈ ids, d ∉ idsL m) ↔ ∃ d ∈ ids, d ∉ idsL l := by
    constructor
    · rintro ⟨d, h1, h2⟩; exact ⟨d, h1, fun h3 => h2 ((h d).2 h3)⟩
    · rintro ⟨d, h1, h2⟩; exact ⟨d, h1, fun h3 => h2 ((h d).1 h3)⟩
  simp only [e]
/-! ## One node more -/
theorem more_grow {l : List Nd} {n : Nd} (h : (readE (l ++ [n])).2 = 0) : Grow l (l ++ [n]) := by
  have hl := ok_len h
  rw [List.length_append, List.length_singleton] at hl
  have okl : (readE l).2 = 0 := readE_all (by omega) fun j x hj => by
    have hlt := (List.getElem?_eq_some_iff.1 hj).1
    have := ok_at h (i := j) (n := x) (by rw [List.getElem?_append_left hlt]; exact hj)
    rwa [List.take_append_of_le_length (by omega)] at this
  refine ⟨okl, h, fun d hd => ?_, fun d hd => ?_⟩
  · obtain ⟨x, hx, e⟩ := List.mem_map.1 hd
    exact e ▸ List.mem_map.2 ⟨x, List.mem_append_left _ hx, rfl⟩
  · obtain ⟨x, hx, e⟩ := List.mem_map.1 hd
    rw [← e, parD_mem h (List.mem_append_left _ hx), parD_mem okl hx]
end Go.Pl
