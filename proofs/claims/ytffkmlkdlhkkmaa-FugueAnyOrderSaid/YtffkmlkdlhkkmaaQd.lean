/- Commits added again and again: whatever the order, the same ones are in. Plain. -/
import Derived.Test.YtffkmlkdlhkkmaaQc
set_option linter.unusedSimpArgs false
set_option linter.unusedVariables false
namespace Go.Fu
open Go.Fw Go.Pl
theorem sum_one {α : Type} (l : List α) : (l.map fun _ => 1).sum = l.length := by
  induction l with
  | nil => rfl
  | cons x r ih => simp only [List.map_cons, List.sum_cons, ih, List.length_cons]; omega
theorem sum_more {α : Type} (f : α → Nat) {l m : List α} {c : α} (hn : l.Nodup) (hs : ∀ x ∈ l, x ∈ m) (hc : c ∈ m) (hl : c ∉ l) : (l.map f).sum + f c ≤ (m.map f).sum := by
  letI : DecidableEq α := fun a b => Classical.propDecidable (a = b)
  have := sum_sub f (l := c :: l) (m := m) (List.nodup_cons.2 ⟨hl, hn⟩) (fun x hx => by
    rcases List.mem_cons.1 hx with rfl | hx
    · exact hc
    · exact hs x hx)
  simp only [List.map_cons, List.sum_cons] at this
  omega
theorem inj_of_map {α β : Type} {f : α → β} {l : List α} (h : (l.map f).Nodup) {x y : α} (hx : x ∈ l) (hy : y ∈ l) (he : f x = f y) : x = y := by
  obtain ⟨i, hi, rfl⟩ := List.mem_iff_getElem.1 hx
  obtain ⟨j, hj, rfl⟩ := List.mem_iff_getElem.1 hy
  have h1 := List.pairwise_iff_getElem.1 (List.pairwise_map.1 h)
  rcases Nat.lt_trichotomy i j with hl | hl | hl
  · exact absurd he (h1 i j hi hj hl)
  · subst hl; rfl
  · exact absurd he.symm (h1 j i hj hi hl)
theorem wrongN_ok {e : List El} {ops : List OpD} (h1 : ∀ (k : Nat) (x : OpD), ops[k]? = some x → rightI ops ((k : Int) + 1) = 0) (h2 : ∀ x ∈ ops, refKind x.at_ = 2 → ∃ y ∈ e, y.name = x.at_) : ∀ n, n ≤ ops.length → wrongN e ops n = 0
  | 0, _ => rfl
  | n + 1, hn => by
    have ih := wrongN_ok h1 h2 n (by omega)
    obtain ⟨x, hx⟩ : ∃ x, ops[n]? = some x := ⟨_, List.getElem?_eq_getElem (by omega)⟩
    rw [wrongN_at hx ih, wrongAt, if_neg (by rw [h1 n x hx]; simp), if_neg]
    rintro ⟨hk, hno⟩
    obtain ⟨y, hy, hyn⟩ := h2 x (List.mem_of_getElem? hx) hk
    exact atE_none.1 hno y hy hyn
/-- No more of them can be added. -/
def Sat (C : Coms) (T : Tr) : Prop := ∀ c ∈ C, wrongC T c.1 c.2 ≠ 0
theorem sat_full {L C : Coms} {T : Tr} (h : TreeOk L T) (hs : ∀ c ∈ L, c ∈ C) (hl : C.length ≤ L.length) : Sat C T := fun c hc => by
  have hm : c ∈ L := by
    refine Classical.byContradiction fun hcl => ?_
    have := sum_more (fun _ => 1) (nodup_of_map h.nodup) hs hc hcl
    rw [sum_one, sum_one] at this
    omega
  rw [wrongC, if_pos (by rw [h.ads]; exact List.mem_map.2 ⟨c, hm, rfl⟩)]
  decide
theorem conf {L1 L2 C : Coms} {T1 T2 : Tr} (h1 : TreeOk L1 T1) (h2 : TreeOk L2 T2) (hs1 : ∀ c ∈ L1, c ∈ C) (hs2 : ∀ c ∈ L2, c ∈ C) (hid : (C.map (·.1)).Nodup) (hsum : (C.map fun c => insN c.2).sum ≤ 400000) (hsat : Sat C T2) : ∀ c ∈ L1, c ∈ L2 := by
  have key : ∀ n, ∀ c ∈ L1.take n, c ∈ L2 := by
    intro n
    induction n with
    | zero => intro c hc; simp at hc
    | succ n ih =>
      intro c hc
      by_cases hn : n < L1.length
      · obtain ⟨c1, hc1⟩ : ∃ c, L1[n]? = some c := ⟨_, List.getElem?_eq_getElem hn⟩
        rw [Go.Pl.take_succ hc1] at hc
        rcases List.mem_append.1 hc with hc | hc
        · exact ih c hc
        · simp at hc; subst hc
          refine Classical.byContradiction fun hcl => ?_
          have hm := List.mem_of_getElem? hc1
          have hC := hs1 c hm
          refine hsat c hC ?_
          have hfit := h1.fit c hm
          have hid2 : c.1 ∉ T2.ad := by
            rw [h2.ads]
            intro hx
            obtain ⟨c', hc', he⟩ := List.mem_map.1 hx
            have e1 := inj_of_map hid (hs2 c' hc') hC he
            exact hcl (e1 ▸ hc')
          have hlen := h2.length
          have hmore := sum_more (fun c : Dig × List OpD => insN c.2) (nodup_of_map h2.nodup) hs2 hC hcl
          have hsplit : L1 = L1.take n ++ c :: L1.drop (n + 1) := by
            obtain ⟨_, e⟩ := List.getElem?_eq_some_iff.1 hc1
            rw [← e, ← List.drop_eq_getElem_cons, List.take_append_drop]
          rw [wrongC, if_neg hid2, if_neg (by rw [hlen]; have := hfit.1; omega)]
          refine wrongN_ok hfit.2 (fun x hx hk => ?_) _ (Nat.le_refl _)
          obtain ⟨b, p, s, hi⟩ := h1.seq _ c _ hsplit x hx hk
          exact (h2.built.names _).2 (.inr ⟨b, p, s, ins_mem ih hi⟩)
      · rw [List.take_of_length_le (by omega)] at hc
        exact ih c (by rw [List.take_of_length_le (by omega)]; exact hc)
  intro c hc
  exact key L1.length c (by rw [List.take_length]; exact hc)
/-- Two orders of the same commits end alike. -/
theorem same_all {L1 L2 C1 C2 : Coms} {T1 T2 : Tr} (h1 : TreeOk L1 T1) (h2 : TreeOk L2 T2) (hs1 : ∀ c ∈ L1, c ∈ C1) (hs2 : ∀ c ∈ L2, c ∈ C2) (hC : ∀ c, c ∈ C1 ↔ c ∈ C2) (hid1 : (C1.map (·.1)).Nodup) (hid2 : (C2.map (·.1)).Nodup) (hsum1 : (C1.map fun c => insN c.2).sum ≤ 400000) (hsum2 : (C2.map fun c => insN c.2).sum ≤ 400000) (hsat1 : Sat C1 T1) (hsat2 : Sat C2 T2) : ∀ c, c ∈ L1 ↔ c ∈ L2 := fun c =>
  ⟨conf h1 h2 (fun c hc => (hC c).1 (hs1 c hc)) hs2 hid2 hsum2 hsat2 c, conf h2 h1 (fun c hc => (hC c).2 (hs2 c hc)) hs1 hid1 hsum1 hsat1 c⟩
end Go.Fu
