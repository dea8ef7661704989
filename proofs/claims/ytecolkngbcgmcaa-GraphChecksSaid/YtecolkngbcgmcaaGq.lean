/- The plain law of graphs: the order of marked nodes. No condition; no program. -/
import Derived.Test.YtecolkngbcgmcaaGp
set_option linter.unusedSimpArgs false
set_option linter.unusedVariables false
namespace Go.Pl
open Go.Fw
variable {l : List Nd}
theorem nodup_le : ∀ {a b : List Dig}, a.Nodup → (∀ x ∈ a, x ∈ b) → a.length ≤ b.length
  | [], _, _, _ => Nat.zero_le _
  | x :: a, b, h, hs => by
    have h' := List.nodup_cons.1 h
    have hx := hs x (by simp)
    have ih := nodup_le (a := a) (b := b.erase x) h'.2 (fun y hy => (List.mem_erase_of_ne (fun (e : y = x) => h'.1 (by rw [← e]; exact hy))).2 (hs y (by simp [hy])))
    rw [List.length_erase_of_mem hx] at ih
    have := List.length_pos_of_mem hx
    simp only [List.length_cons]
    omega
def parD (l : List Nd) (d : Dig) : List Dig := ((l[ixN l d]?).map Nd.ps).getD []
theorem parD_at (h : (readE l).2 = 0) {i : Nat} {n : Nd} (hn : l[i]? = some n) : parD l n.id = n.ps := by
  rw [parD, ixN_at h hn, hn]; rfl
theorem parD_mem (h : (readE l).2 = 0) {n : Nd} (hn : n ∈ l) : parD l n.id = n.ps := by
  obtain ⟨j, hj⟩ := List.mem_iff_getElem?.1 hn
  exact parD_at h hj
/-- May it come next? -/
def mayQ (l : List Nd) (out : List Dig) (d : Dig) : Bool := !decide (d ∈ out) && (parD l d).all fun p => decide (p ∈ out)
theorem mayQ_iff {out : List Dig} {d : Dig} : mayQ l out d = true ↔ d ∉ out ∧ ∀ p ∈ parD l d, p ∈ out := by
  simp [mayQ]
/-- The next one of these. -/
def nextQ (l : List Nd) (all out : List Dig) : Option Dig := all.find? (mayQ l out)
def orderQ (l : List Nd) (all : List Dig) : Nat → List Dig → List Dig
  | 0, out => out
  | k + 1, out => match nextQ l all out with
    | none => out
    | some d => orderQ l all k (out ++ [d])
theorem orderQ_none {all out : List Dig} (h : nextQ l all out = none) : ∀ k, orderQ l all k out = out
  | 0 => rfl
  | k + 1 => by rw [orderQ, h]
theorem orderQ_some {all out : List Dig} {d : Dig} {k : Nat} (h : nextQ l all out = some d) : orderQ l all (k + 1) out = orderQ l all k (out ++ [d]) := by rw [orderQ, h]
theorem find_least {p : Dig → Bool} {x : Dig} : ∀ {all : List Dig}, Up all → x ∈ all → p x = true → (∀ y ∈ all, p y = true → y = x ∨ lessB x y = true) → all.find? p = some x
  | [], _, h, _, _ => by cases h
  | y :: r, hu, hx, hp, hall => by
    have hu' := List.pairwise_cons.1 hu
    rw [List.find?_cons]
    cases hpy : p y with
    | true =>
      rcases hall y (by simp) hpy with e | hl
      · subst e; rfl
      · rcases List.mem_cons.1 hx with e | hr
        · subst e; rfl
        · have := hu'.1 x hr
          rw [less_asymm this] at hl; cases hl
    | false =>
      rcases List.mem_cons.1 hx with e | hr
      · subst e; rw [hp] at hpy; cases hpy
      · exact find_least hu'.2 hr hp (fun z hz => hall z (by simp [hz]))
/-- Node i may come next. -/
structure Cand (l : List Nd) (In C : List Bool) (i : Nat) (n : Nd) : Prop where
  isin : In[i]? = some true
  new : ¬ C[i]? = some true
  par : (n.ps.any fun d => !bitAt C l d) = false
theorem bestD_spec (h : (readE l).2 = 0) {In C : List Bool} : ∀ {k : Nat}, k ≤ l.length →
    (bestD l In C k = none ∧ ∀ i n, i < k → l[i]? = some n → ¬ Cand l In C i n) ∨
    ∃ b m, bestD l In C k = some b ∧ l[b]? = some m ∧ b < k ∧ Cand l In C b m ∧ ∀ i n, i < k → l[i]? = some n → Cand l In C i n → i = b ∨ lessB m.id n.id = true
  | 0, _ => .inl ⟨rfl, fun i n hi => by omega⟩
  | k + 1, hk => by
    obtain ⟨n, hn⟩ : ∃ n, l[k]? = some n := ⟨_, List.getElem?_eq_getElem (by omega)⟩
    rw [bestD_at hn]
    rcases bestD_spec h (In := In) (C := C) (k := k) (by omega) with ⟨hb, hno⟩ | ⟨b, m, hb, hm, hbk, hc, hall⟩
    · rw [hb]
      by_cases hx : nextB l In C none k n = true
      · rw [if_pos hx]
        obtain ⟨h1, h2, _, h4⟩ := nextB_iff.1 hx
        refine .inr ⟨k, n, rfl, hn, by omega, ⟨h1, h2, h4⟩, fun i ni hi hni hci => ?_⟩
        by_cases e : i = k
        · exact .inl e
        · exact absurd hci (hno i ni (by omega) hni)
      · rw [if_neg hx]
        refine .inl ⟨rfl, fun i ni hi hni hci => ?_⟩
        by_cases e : i = k
        · subst e
          rw [hn] at hni; cases hni
          exact hx (nextB_iff.2 ⟨hci.1, hci.2, (fun b hb => by cases hb), hci.3⟩)
        · exact hno i ni (by omega) hni hci
    · rw [hb]
      have hidb : idAt l b = m.id := idAt_at hm
      by_cases hx : nextB l In C (some b) k n = true
      · rw [if_pos hx]
        obtain ⟨h1, h2, h3, h4⟩ := nextB_iff.1 hx
        have h9 := h3 b rfl
        rw [hidb] at h9
        refine .inr ⟨k, n, rfl, hn, by omega, ⟨h1, h2, h4⟩, fun i ni hi hni hci => ?_⟩
        by_cases e : i = k
        · exact .inl e
        · rcases hall i ni (by omega) hni hci with e2 | h5
          · subst e2
            rw [hm] at hni; cases hni
            exact .inr h9
          · exact .inr (less_trans h9 h5)
      · rw [if_neg hx]
        refine .inr ⟨b, m, rfl, hm, by omega, hc, fun i ni hi hni hci => ?_⟩
        by_cases e : i = k
        · subst e
          rw [hn] at hni; cases hni
          right
          cases h5 : lessB m.id n.id with
          | true => rfl
          | false =>
            exfalso
            apply hx
            refine nextB_iff.2 ⟨hci.1, hci.2, fun b2 hb2 => ?_, hci.3⟩
            cases hb2
            rw [hidb]
            cases h6 : lessB n.id m.id with
            | true => rfl
            | false =>
              have e2 := less_tri h5 h6
              have h7 := ixN_at h hm
              rw [e2, ixN_at h hn] at h7
              omega
        · exact hall i ni (by omega) hni hci
theorem cand_iff (h : (readE l).2 = 0) {In C : List Bool} {out : List Dig} (hC : ∀ d ∈ idsL l, bitAt C l d = true ↔ d ∈ out) {i : Nat} {n : Nd} (hn : l[i]? = some n) : Cand l In C i n ↔ bitAt In l n.id = true ∧ mayQ l out n.id = true := by
  have hni := mem_ids_at hn
  have hx := ixN_at h hn
  have hp : (n.ps.any fun d => !bitAt C l d) = false ↔ ∀ p ∈ n.ps, p ∈ out := by
    rw [List.any_eq_false]
    constructor
    · intro h1 p hp
      have := h1 p hp
      exact (hC p (ix_par h hn hp).1).1 (by simpa using this)
    · intro h1 p hp
      have := (hC p (ix_par h hn hp).1).2 (h1 p hp)
      simp [this]
  rw [mayQ_iff, parD_at h hn, bit_iff, hx, ← hp]
  have hc := hC n.id hni
  rw [bit_iff, hx] at hc
  exact ⟨fun ⟨h1, h2, h3⟩ => ⟨h1, fun e => h2 (hc.2 e), h3⟩, fun ⟨h1, h2, h3⟩ => ⟨h1, fun e => h2 (hc.1 e), h3⟩⟩
theorem best_next (h : (readE l).2 = 0) {In C : List Bool} {all out : List Dig} (hu : Up all) (hall : ∀ d, d ∈ all ↔ d ∈ idsL l ∧ bitAt In l d = true) (hC : ∀ d ∈ idsL l, bitAt C l d = true ↔ d ∈ out) :
    nextQ l all out = (bestD l In C l.length).map (idAt l) := by
  rcases bestD_spec h (In := In) (C := C) (Nat.le_refl _) with ⟨hb, hno⟩ | ⟨b, m, hb, hm, hbk, hc, hmin⟩
  · rw [hb, Option.map_none, nextQ, List.find?_eq_none]
    intro d hd hm
    obtain ⟨h1, h2⟩ := (hall d).1 hd
    obtain ⟨n, hn, rfl⟩ := at_ixN h1
    exact hno _ n (ixN_lt h1) hn ((cand_iff h hC hn).2 ⟨h2, hm⟩)
  · rw [hb, Option.map_some, idAt_at hm, nextQ]
    obtain ⟨h1, h2⟩ := (cand_iff h hC hm).1 hc
    refine find_least hu ((hall _).2 ⟨mem_ids_at hm, h1⟩) h2 fun y hy hmy => ?_
    obtain ⟨h3, h4⟩ := (hall y).1 hy
    obtain ⟨n, hn, rfl⟩ := at_ixN h3
    rcases hmin _ n (ixN_lt h3) hn ((cand_iff h hC hn).2 ⟨h4, hmy⟩) with e | h5
    · left; rw [e, hm] at hn; cases hn; rfl
    · exact .inr h5
theorem set_bit (h : (readE l).2 = 0) {C : List Bool} (hl : C.length = l.length) {b : Nat} {m : Nd} (hm : l[b]? = some m) {d : Dig} (hd : d ∈ idsL l) : bitAt (C.set b true) l d = true ↔ bitAt C l d = true ∨ d = m.id := by
  have hb := (List.getElem?_eq_some_iff.1 hm).1
  have hx := ixN_at h hm
  rw [bit_iff, bit_iff, List.getElem?_set]
  by_cases e : b = ixN l d
  · have e2 : d = m.id := ixN_inj hd (mem_ids_at hm) (by omega)
    rw [if_pos e, if_pos (by omega)]
    simp [e2]
  · have e2 : ¬ d = m.id := fun e2 => e (by rw [e2, hx])
    rw [if_neg e]
    simp [e2]
theorem orderD_eq (h : (readE l).2 = 0) {In : List Bool} {all : List Dig} (hu : Up all) (hall : ∀ d, d ∈ all ↔ d ∈ idsL l ∧ bitAt In l d = true) : ∀ {k : Nat} {C : List Bool} {out : List Dig}, C.length = l.length → (∀ d ∈ idsL l, bitAt C l d = true ↔ d ∈ out) → orderD l In k C out = orderQ l all k out
  | 0, _, _, _, _ => rfl
  | k + 1, C, out, hl, hC => by
    have hb := best_next h hu hall hC
    cases hbd : bestD l In C l.length with
    | none =>
      rw [orderD_none hbd]
      rw [hbd] at hb
      rw [orderQ_none hb]
    | some b =>
      rw [orderD_some hbd]
      rw [hbd] at hb
      rw [orderQ_some hb]
      have hbl := (bestD_some hbd).1
      obtain ⟨m, hm⟩ : ∃ m, l[b]? = some m := ⟨_, List.getElem?_eq_getElem hbl⟩
      refine orderD_eq h hu hall (by rw [List.length_set]; exact hl) fun d hd => ?_
      rw [set_bit h hl hm hd, hC d hd, idAt_at hm]
      simp
theorem orderL_eq (h : (readE l).2 = 0) {In : List Bool} {all : List Dig} (hu : Up all) (hall : ∀ d, d ∈ all ↔ d ∈ idsL l ∧ bitAt In l d = true) : orderL l In = orderQ l all (l.length + 1) [] :=
  orderD_eq h hu hall (by simp) (fun d _ => by rw [rep_bit]; simp)
/-- What has come: each once, of these, behind its parents. -/
structure Came (l : List Nd) (all out : List Dig) : Prop where
  once : out.Nodup
  isin : ∀ d ∈ out, d ∈ all
  par : ∀ i d, out[i]? = some d → ∀ p ∈ parD l d, p ∈ out.take i
theorem Came.nil {all : List Dig} : Came l all [] := ⟨List.nodup_nil, (fun d h => by cases h), fun i d h => by simp at h⟩
theorem nextQ_some {all out : List Dig} {d : Dig} (h : nextQ l all out = some d) : d ∈ all ∧ d ∉ out ∧ ∀ p ∈ parD l d, p ∈ out :=
  ⟨List.mem_of_find?_eq_some h, mayQ_iff.1 (List.find?_some h)⟩
theorem Came.more {all out : List Dig} {d : Dig} (h : Came l all out) (hd : nextQ l all out = some d) : Came l all (out ++ [d]) := by
  obtain ⟨h1, h2, h3⟩ := nextQ_some hd
  refine ⟨List.nodup_append.2 ⟨h.once, by simp, fun a ha b hb e => ?_⟩, fun x hx => ?_, fun i x hx p hp => ?_⟩
  · simp at hb; subst hb; subst e; exact h2 ha
  · rcases List.mem_append.1 hx with hx | hx
    · exact h.isin x hx
    · simp at hx; subst hx; exact h1
  · by_cases hi : i < out.length
    · rw [List.getElem?_append_left hi] at hx
      rw [List.take_append_of_le_length (by omega)]
      exact h.par i x hx p hp
    · have hi2 : i = out.length := by
        have := (List.getElem?_eq_some_iff.1 hx).1
        simp at this; omega
      subst hi2
      rw [List.getElem?_append_right (Nat.le_refl _)] at hx
      simp at hx; subst hx
      rw [List.take_append_of_le_length (Nat.le_refl _), List.take_length]
      exact h3 p hp
theorem Came.le {all out : List Dig} (h : Came l all out) : out.length ≤ all.length := nodup_le h.once h.isin
/-- Of some that hold their parents, one comes next as long as one is lacking. -/
theorem next_all (h : (readE l).2 = 0) {all out : List Dig} (hi : ∀ d ∈ all, d ∈ idsL l) (hcl : ∀ d ∈ all, ∀ p ∈ parD l d, p ∈ all) (hn : nextQ l all out = none) : ∀ {k : Nat} {d : Dig}, d ∈ all → ixN l d < k → d ∈ out
  | 0, _, _, hk => by omega
  | k + 1, d, hd, hk => by
    have h1 := List.find?_eq_none.1 hn d hd
    by_cases hm : d ∈ out
    · exact hm
    · exfalso
      apply h1
      refine mayQ_iff.2 ⟨hm, fun p hp => ?_⟩
      obtain ⟨n, hnn, rfl⟩ := at_ixN (hi d hd)
      have hp2 := hp
      rw [parD_at h hnn] at hp2
      have := ix_par h hnn hp2
      exact next_all h hi hcl hn (k := k) (d := p) (hcl _ hd p hp) (by omega)
theorem Came.next (h : (readE l).2 = 0) {all out : List Dig} (hi : ∀ d ∈ all, d ∈ idsL l) (hcl : ∀ d ∈ all, ∀ p ∈ parD l d, p ∈ all) (hu : Up all) (hlt : out.length < all.length) : ∃ d, nextQ l all out = some d := by
  cases hn : nextQ l all out with
  | some d => exact ⟨d, rfl⟩
  | none =>
    exfalso
    have h1 : all.Nodup := hu.imp fun {a b} hab e => by subst e; rw [less_irrefl] at hab; cases hab
    have := nodup_le h1 (fun x hx => next_all h hi hcl hn hx (Nat.lt_succ_self _))
    omega
theorem Came.full {all out : List Dig} (h : Came l all out) (hl : all.length ≤ out.length) : nextQ l all out = none := by
  cases hn : nextQ l all out with
  | none => rfl
  | some d =>
    have := (h.more hn).le
    simp at this; omega
theorem Came.order (h : (readE l).2 = 0) {all : List Dig} (hi : ∀ d ∈ all, d ∈ idsL l) (hcl : ∀ d ∈ all, ∀ p ∈ parD l d, p ∈ all) : ∀ {k : Nat} {out : List Dig}, Came l all out → Came l all (orderQ l all k out) ∧ (all.length < k + out.length → ∀ d ∈ all, d ∈ orderQ l all k out)
  | 0, out, hc => ⟨hc, fun hk => by have := hc.le; omega⟩
  | k + 1, out, hc => by
    cases hn : nextQ l all out with
    | none =>
      rw [orderQ_none hn]
      exact ⟨hc, fun _ d hd => next_all h hi hcl hn hd (Nat.lt_succ_self _)⟩
    | some d =>
      rw [orderQ_some hn]
      have := Came.order h hi hcl (k := k) (hc.more hn)
      exact ⟨this.1, fun hk => this.2 (by simp; omega)⟩
theorem under_closed (h : (readE l).2 = 0) {ids : List Dig} (hin : ∀ p ∈ ids, p ∈ idsL l) : ∀ d ∈ aboveL l ids, ∀ p ∈ parD l d, p ∈ aboveL l ids := by
  intro d hd p hp
  obtain ⟨a, ha, had⟩ := (above_mem h hin).1 hd
  obtain ⟨n, hn, rfl⟩ := at_ixN (had.mem h (hin a ha))
  rw [parD_at h hn] at hp
  exact (above_mem h hin).2 ⟨a, ha, had.trans (.step (List.mem_of_getElem? hn) hp (.refl _))⟩
theorem above_length {ids : List Dig} : (aboveL l ids).length ≤ l.length := by
  rw [aboveL, sortedD_length, List.length_map]
  exact reachD_le
/-- The order of some IDs' reach. -/
def ordL (l : List Nd) (ids : List Dig) : List Dig := orderQ l (aboveL l ids) (l.length + 1) []
theorem order_marks (h : (readE l).2 = 0) {ids : List Dig} (hin : ∀ p ∈ ids, p ∈ idsL l) : orderL l (markS l ids) = ordL l ids :=
  orderL_eq h (above_up h) fun d => by
    rw [above_mem h hin]
    constructor
    · intro hu
      have hd := under_ids h hin hu
      exact ⟨hd, (markS_bit h hin hd).2 hu⟩
    · rintro ⟨hd, hb⟩
      exact (markS_bit h hin hd).1 hb
theorem ordL_came (h : (readE l).2 = 0) {ids : List Dig} (hin : ∀ p ∈ ids, p ∈ idsL l) : Came l (aboveL l ids) (ordL l ids) ∧ ∀ d ∈ aboveL l ids, d ∈ ordL l ids := by
  have := Came.order h (all := aboveL l ids) (fun d hd => under_ids h hin ((above_mem h hin).1 hd)) (under_closed h hin) (k := l.length + 1) (out := []) Came.nil
  refine ⟨this.1, this.2 ?_⟩
  have := above_length (l := l) (ids := ids)
  simp; omega
theorem ordL_mem (h : (readE l).2 = 0) {ids : List Dig} (hin : ∀ p ∈ ids, p ∈ idsL l) {d : Dig} : d ∈ ordL l ids ↔ Under l ids d := by
  have := ordL_came h hin
  rw [← above_mem h hin]
  exact ⟨fun hd => this.1.isin d hd, this.2 d⟩
end Go.Pl
