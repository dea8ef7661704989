/- What a store holds, by what was put: the plain law of StoreOnce. No condition; no program. -/
import Derived.Test.YtkbmlnkoejlgmaaDoorXh
set_option linter.unusedSimpArgs false
set_option linter.unusedVariables false
namespace Go.Proofs.YtkbmlnkoejlgmaaDoor
open Go.RowKit Go.Fw Go.Pl Go.Sort
theorem nodup_leD : ∀ {a b : List Dig}, a.Nodup → (∀ x ∈ a, x ∈ b) → a.length ≤ b.length
  | [], _, _, _ => Nat.zero_le _
  | x :: a, b, h, hs => by
    have h' := List.nodup_cons.1 h
    have hx := hs x (by simp)
    have ih := nodup_leD (a := a) (b := b.erase x) h'.2 (fun y hy => (List.mem_erase_of_ne (fun (e : y = x) => h'.1 (by rw [← e]; exact hy))).2 (hs y (by simp [hy])))
    rw [List.length_erase_of_mem hx] at ih
    have := List.length_pos_of_mem hx
    simp only [List.length_cons]
    omega
/-- What a store has under a digest. -/
def valOf (l : List Ent) (d : Dig) : Option (List UInt8) := (at_ l d).map fun p => p.2.b
theorem at_mem {l : List Ent} (h : Unlike l) {e : Ent} (he : e ∈ l) : ∃ j, at_ l e.k = some (j, e) := by
  cases hp : at_ l e.k with
  | none => exact absurd rfl (mfind_none hp e he)
  | some p =>
    obtain ⟨j, f⟩ := p
    obtain ⟨_, hj, hk⟩ := mfind_some hp
    rw [Nat.sub_zero] at hj
    obtain ⟨i, hi⟩ := List.mem_iff_getElem?.1 he
    have hil := (List.getElem?_eq_some_iff.1 hi).1
    have h1 : (l.map Ent.k)[i]? = some e.k := by simp [hi]
    have h2 : (l.map Ent.k)[j]? = some e.k := by simp [hj, hk]
    have := (List.getElem?_inj (by simpa using hil) h).1 (h1.trans h2.symm)
    subst this
    rw [hi] at hj; cases hj
    exact ⟨i, rfl⟩
theorem valOf_iff {l : List Ent} (h : Unlike l) {d : Dig} {x : List UInt8} : valOf l d = some x ↔ ∃ e ∈ l, e.k = d ∧ e.b = x := by
  constructor
  · intro hv
    obtain ⟨⟨j, e⟩, hp, rfl⟩ := Option.map_eq_some_iff.1 hv
    obtain ⟨_, hj, hk⟩ := mfind_some hp
    exact ⟨e, List.mem_of_getElem? hj, hk, rfl⟩
  · rintro ⟨e, he, rfl, rfl⟩
    obtain ⟨j, hj⟩ := at_mem h he
    rw [valOf, hj]; rfl
theorem getB_val {l : List Ent} {d : Dig} {x : List UInt8} (h : valOf l d = some x) : getB l d = x := by
  obtain ⟨⟨j, e⟩, hp, rfl⟩ := Option.map_eq_some_iff.1 h
  simp [getB, hp]
theorem val_getB {l : List Ent} {d : Dig} (h : (at_ l d).isSome = true) : valOf l d = some (getB l d) := by
  obtain ⟨⟨j, e⟩, hp⟩ := Option.isSome_iff_exists.1 h
  simp [valOf, getB, hp]
/-- A store that these texts were put into. -/
structure Holds (l : List Ent) (J : List (List UInt8)) : Prop where
  keys : Unlike l
  val : ∀ d x, valOf l d = some x ↔ x ∈ J ∧ x.length ≤ 131072 ∧ shaD x = d
theorem Holds.nil : Holds [] [] := ⟨List.nodup_nil, fun d x => by simp [valOf, mfind]⟩
theorem Holds.congr {l : List Ent} {J K : List (List UInt8)} (h : Holds l J) (hJ : ∀ x, x ∈ J ↔ x ∈ K) : Holds l K := ⟨h.keys, fun d x => by rw [h.val, hJ]⟩
theorem Holds.ent {l : List Ent} {J : List (List UInt8)} (h : Holds l J) {e : Ent} (he : e ∈ l) : e.b ∈ J ∧ e.b.length ≤ 131072 ∧ shaD e.b = e.k := (h.val _ _).1 ((valOf_iff h.keys).2 ⟨e, he, rfl, rfl⟩)
theorem Holds.len {l : List Ent} {J : List (List UInt8)} (h : Holds l J) : l.length ≤ J.length := by
  have hn : (l.map Ent.k).Nodup := h.keys
  have := nodup_leD hn (b := J.map shaD) fun d hd => by
    obtain ⟨e, he, rfl⟩ := List.mem_map.1 hd
    obtain ⟨h1, _, h3⟩ := h.ent he
    exact List.mem_map.2 ⟨e.b, h1, h3⟩
  simpa using this
theorem Holds.put {l l' : List Ent} {J : List (List UInt8)} {b : List UInt8} (h : Holds l J) (h10 : putE l b ≠ 10) (hf : l.length < 500) (hP : PutL l b l') (hk : Unlike l') : Holds l' (J ++ [b]) := by
  refine ⟨hk, fun d x => ?_⟩
  rw [List.mem_append, List.mem_singleton]
  unfold PutL at hP
  by_cases hl : 131072 < b.length
  · have hE : putE l b = 3 := by rw [putE, if_pos hl]
    rw [if_neg (by rw [hE]; rintro ⟨h, _⟩; omega)] at hP
    subst hP
    rw [h.val]
    constructor
    · rintro ⟨h1, h2, h3⟩; exact ⟨.inl h1, h2, h3⟩
    · rintro ⟨h1 | rfl, h2, h3⟩
      · exact ⟨h1, h2, h3⟩
      · omega
  · by_cases ht : (at_ l (shaD b)).isSome = true
    · have hg : getB l (shaD b) = b := by
        by_cases hb : getB l (shaD b) = b
        · exact hb
        · exact absurd (by rw [putE, if_neg hl, if_pos ht, if_neg hb]) h10
      have hv := val_getB ht
      rw [hg] at hv
      rw [if_neg (by rintro ⟨_, hn⟩; rw [hn] at ht; cases ht)] at hP
      subst hP
      rw [h.val]
      constructor
      · rintro ⟨h1, h2, h3⟩; exact ⟨.inl h1, h2, h3⟩
      · rintro ⟨h1 | rfl, h2, h3⟩
        · exact ⟨h1, h2, h3⟩
        · have := (h.val _ _).1 hv
          exact ⟨this.1, h2, h3⟩
    · have hn : at_ l (shaD b) = none := by simpa using ht
      have hE : putE l b = 0 := by rw [putE, if_neg hl, if_neg ht, if_neg (by omega)]
      rw [if_pos ⟨hE, hn⟩] at hP
      obtain ⟨e, rfl, hek, heb⟩ := hP
      rw [valOf_iff hk]
      constructor
      · rintro ⟨f, hf, rfl, rfl⟩
        rcases List.mem_append.1 hf with hf | hf
        · obtain ⟨h1, h2, h3⟩ := h.ent hf
          exact ⟨.inl h1, h2, h3⟩
        · simp at hf; subst hf
          exact ⟨.inr heb, by rw [heb]; omega, by rw [heb, hek]⟩
      · rintro ⟨h1 | rfl, h2, h3⟩
        · obtain ⟨f, hf, h4, h5⟩ := (valOf_iff h.keys).1 ((h.val d x).2 ⟨h1, h2, h3⟩)
          exact ⟨f, List.mem_append_left _ hf, h4, h5⟩
        · exact ⟨e, List.mem_append_right _ (by simp), hek.trans h3, heb⟩
/-- No two unlike texts of these have one digest. -/
def NoColl (J : List (List UInt8)) : Prop := ∀ x ∈ J, ∀ y ∈ J, x.length ≤ 131072 → y.length ≤ 131072 → shaD x = shaD y → x = y
theorem Holds.noColl {l : List Ent} {J : List (List UInt8)} (h : Holds l J) : NoColl J := fun x hx y hy h1 h2 h3 => by
  have a := (h.val _ _).2 ⟨hx, h1, rfl⟩
  have b := (h.val _ _).2 ⟨hy, h2, rfl⟩
  rw [h3, b] at a
  exact (Option.some.inj a).symm
theorem Holds.no10 {l : List Ent} {J K : List (List UInt8)} {b : List UInt8} (h : Holds l J) (hc : NoColl K) (hJ : ∀ x ∈ J, x ∈ K) (hb : b ∈ K) : putE l b ≠ 10 := by
  unfold putE
  split
  · omega
  · rename_i hl
    split
    · rename_i ht
      have hv := val_getB ht
      obtain ⟨h1, h2, h3⟩ := (h.val _ _).1 hv
      have := hc _ (hJ _ h1) _ hb h2 (by omega) h3
      rw [if_pos this]; omega
    · split <;> omega
theorem Holds.same {s t : List Ent} {J K : List (List UInt8)} (hs : Holds s J) (ht : Holds t K) (h : ∀ x, x ∈ J ↔ x ∈ K) (d : Dig) : valOf s d = valOf t d := by
  have hi : ∀ x, valOf s d = some x ↔ valOf t d = some x := fun x => by rw [hs.val, ht.val, h]
  cases ha : valOf s d with
  | some x => exact ((hi x).1 ha).symm
  | none =>
    cases hb : valOf t d with
    | none => rfl
    | some x => rw [(hi x).2 hb] at ha; cases ha
theorem names_val {l : List Ent} (h : Unlike l) {d : Dig} : d ∈ namesL l ↔ ∃ x, valOf l d = some x := by
  rw [namesL_mem]
  constructor
  · rintro ⟨e, he, rfl⟩; exact ⟨e.b, (valOf_iff h).2 ⟨e, he, rfl, rfl⟩⟩
  · rintro ⟨x, hx⟩
    obtain ⟨e, he, hk, _⟩ := (valOf_iff h).1 hx
    exact ⟨e, he, hk⟩
theorem names_same {s t : List Ent} (hs : Unlike s) (ht : Unlike t) (h : ∀ d, valOf s d = valOf t d) : namesL s = namesL t :=
  up_eq (namesL_up hs) (namesL_up ht) fun d => by rw [names_val hs, names_val ht, h]
theorem getB_same {s t : List Ent} {d : Dig} (h : valOf s d = valOf t d) : getB s d = getB t d := by
  cases hv : valOf s d with
  | some x => rw [getB_val hv, getB_val (h.symm.trans hv)]
  | none =>
    have a : at_ s d = none := by simpa [valOf] using hv
    have b : at_ t d = none := by rw [h] at hv; simpa [valOf] using hv
    rw [getB, getB, a, b]
theorem pairs_nodup {l : List Ent} (h : Unlike l) : (l.map fun e => (e.k, e.b)).Nodup := by
  unfold Unlike List.Nodup at h
  rw [List.pairwise_map] at h
  rw [List.Nodup, List.pairwise_map]
  exact h.imp fun hne e => hne (congrArg Prod.fst e)
theorem total_same {s t : List Ent} (hs : Unlike s) (ht : Unlike t) (h : ∀ d, valOf s d = valOf t d) : total s = total t := by
  have hp : (s.map fun e => (e.k, e.b)).Perm (t.map fun e => (e.k, e.b)) := (List.perm_ext_iff_of_nodup (pairs_nodup hs) (pairs_nodup ht)).2 fun ⟨d, x⟩ => by
    have h1 := valOf_iff hs (d := d) (x := x)
    have h2 := valOf_iff ht (d := d) (x := x)
    rw [h d] at h1
    simp only [List.mem_map, Prod.mk.injEq]
    exact h1.symm.trans h2
  have := (hp.map fun p => p.2.length).sum_nat
  simpa [total, List.map_map, Function.comp_def] using this
/-- The texts, each behind its digest's bytes. -/
def strL (l : List Ent) : List (List UInt8) := (namesL l).map fun d => d.1 ++ getB l d
theorem strL_same {s t : List Ent} (hs : Unlike s) (ht : Unlike t) (h : ∀ d, valOf s d = valOf t d) : strL s = strL t := by
  rw [strL, strL, names_same hs ht h]
  exact List.map_congr_left fun d _ => by rw [getB_same (h d)]
theorem bl_app : ∀ {a b : List UInt8} (x y : List UInt8), a.length = b.length → Op.bytesLess a b = true → Op.bytesLess (a ++ x) (b ++ y) = true
  | [], [], _, _, _, h => by simp [Op.bytesLess] at h
  | [], _ :: _, _, _, h, _ => by simp at h
  | _ :: _, [], _, _, h, _ => by simp at h
  | a :: r, b :: s, x, y, hl, h => by
    simp only [Op.bytesLess, Bool.or_eq_true, decide_eq_true_eq, Bool.and_eq_true, beq_iff_eq, List.cons_append] at h ⊢
    rcases h with h | ⟨h1, h2⟩
    · exact .inl h
    · exact .inr ⟨h1, bl_app x y (by simpa using hl) h2⟩
theorem strL_up {l : List Ent} (h : Unlike l) : (strL l).Pairwise fun x y => Op.bytesLess x y = true := by
  rw [strL, List.pairwise_map]
  exact (namesL_up h).imp fun {a b} hab => bl_app _ _ (by rw [a.2, b.2]) hab
end Go.Proofs.YtkbmlnkoejlgmaaDoor
