/- Parts of a proof: what its last text leans on. No condition. -/
import Derived.Test.YtjbeooimhoilmaaDoorK17
import Derived.Test.YtjbeooimhoilmaaDoorK21
import Derived.Test.YtjbeooimhoilmaaDoorK22
import Derived.Test.YtjbeooimhoilmaaDoorK24
set_option linter.unusedSimpArgs false
set_option linter.unusedVariables false
/- The plain law of merges: what is seen in two versions merged. No condition; no program. -/
namespace Go.Proofs.YtjbeooimhoilmaaDoor
open Go.Fw Go.Pl Go.Fu
def insB (but : RefD → Bool) : List RefD → List RefD → Bool
  | [], _ => true
  | r :: l, all => if but r = true then insB but l all else match all.dropWhile (fun x => decide (x ≠ r)) with
    | [] => false
    | _ :: rest => insB but l rest
theorem sub_drop {r : RefD} {m : List RefD} : ∀ {all : List RefD}, (r :: m).Sublist all → ∃ rest, all.dropWhile (fun x => decide (x ≠ r)) = r :: rest ∧ m.Sublist rest
  | [], h => by cases h
  | a :: all, h => by
    by_cases e : a = r
    · subst e
      refine ⟨all, by simp [List.dropWhile_cons], ?_⟩
      cases h with
      | cons _ h => exact (List.sublist_cons_self _ _).trans h
      | cons_cons _ h => exact h
    · have h' : (r :: m).Sublist all := by
        cases h with
        | cons _ h => exact h
        | cons_cons _ h => exact absurd rfl e
      obtain ⟨rest, h1, h2⟩ := sub_drop h'
      exact ⟨rest, by rw [List.dropWhile_cons, if_pos (by simpa using e), h1], h2⟩
theorem insB_sub {but : RefD → Bool} : ∀ {l all : List RefD}, (l.filter fun r => !but r).Sublist all → insB but l all = true
  | [], _, _ => rfl
  | r :: l, all, h => by
    rw [insB]
    by_cases hb : but r = true
    · rw [if_pos hb]
      exact insB_sub (by rwa [List.filter_cons, if_neg (by simp [hb])] at h)
    · rw [if_neg hb]
      rw [List.filter_cons, if_pos (by simp [hb])] at h
      obtain ⟨rest, h1, h2⟩ := sub_drop h
      rw [h1]
      exact insB_sub h2
noncomputable abbrev seenR (T : Tr) : List RefD := (seenE T.e).map (nm T.e)
noncomputable def goneB (T : Tr) (r : RefD) : Bool := hasE T.e r && !(placeV T.e r).2
abbrev InsR (L : Coms) (r : RefD) : Prop := ∃ b p s, InsOf L r b p s
section
variable {L : Coms} {T : Tr} (h : TreeOk L T)
include h
omit h in
theorem ins_ne {r : RefD} (hi : InsR L r) : r ≠ RefD.zero := by
  obtain ⟨_, _, _, id, ops, k, x, _, _, _, rfl, _⟩ := hi
  intro e
  injection e with _ _ e
  omega
theorem del_ne {r : RefD} (hd : DelOf L r) : r ≠ RefD.zero := by
  obtain ⟨id, ops, k, x, hm, hx, hk, rfl⟩ := hd
  have R := right_op hx ((h.fit _ hm).2 k x hx)
  rcases R.kind with ⟨h1, _⟩ | ⟨_, h2, _⟩
  · omega
  · unfold res
    split
    · rename_i ho
      have := (R.own ho).1
      intro e
      injection e with _ _ e
      omega
    · exact h2
theorem del_ins {r : RefD} (hd : DelOf L r) : InsR L r := (((h.built.names r).1 (h.built.dpar r hd)).resolve_left (del_ne h hd))
theorem seenR_mem {r : RefD} : r ∈ seenR T ↔ InsR L r ∧ ¬ DelOf L r := by
  rw [List.mem_map]
  constructor
  · rintro ⟨i, hi, rfl⟩
    obtain ⟨x, hx⟩ : ∃ x, T.e[i]? = some x := ⟨_, List.getElem?_eq_getElem (seen_lt h.good.down hi)⟩
    have hg := (h.good.seen_mem hx).1 hi
    have hm := List.mem_of_getElem? hx
    have hb := h.built.gone x hm
    rw [nm_at hx]
    have hz : ¬ (x.name = RefD.zero ∨ DelOf L x.name) := fun hh => by rw [hb.2 hh] at hg; cases hg
    exact ⟨((h.built.names x.name).1 ⟨x, hm, rfl⟩).resolve_left fun e => hz (.inl e), fun hd => hz (.inr hd)⟩
  · rintro ⟨hi, hd⟩
    obtain ⟨x, hm, hn⟩ := (h.built.names r).2 (.inr hi)
    obtain ⟨i, hx⟩ := List.mem_iff_getElem?.1 hm
    refine ⟨i, (h.good.seen_mem hx).2 ?_, by rw [nm_at hx, hn]⟩
    cases hg : x.gone with
    | false => rfl
    | true =>
      rcases (h.built.gone x hm).1 hg with e | e
      · exact absurd (hn ▸ e) (ins_ne hi)
      · exact absurd (hn ▸ e) hd
theorem names_nodup : ((orderE T.e).map (nm T.e)).Nodup := by
  have h1 := h.good.nodup
  rw [List.Nodup, List.pairwise_map]
  refine List.Pairwise.imp_of_mem ?_ h1
  intro i j hi hj hne e
  obtain ⟨x, hx⟩ : ∃ x, T.e[i]? = some x := ⟨_, List.getElem?_eq_getElem (order_lt h.good.down hi)⟩
  obtain ⟨y, hy⟩ : ∃ y, T.e[j]? = some y := ⟨_, List.getElem?_eq_getElem (order_lt h.good.down hj)⟩
  rw [nm_at hx, nm_at hy] at e
  exact hne (h.good.inj hx hy e)
theorem hasE_iff {r : RefD} : hasE T.e r = true ↔ InsR L r := by
  unfold hasE
  constructor
  · intro hh
    split at hh
    · rename_i i hi
      have hi0 : 0 < i := of_decide_eq_true hh
      obtain ⟨x, hx, hn, _⟩ := atE_some.1 hi
      refine ((h.built.names r).1 ⟨x, List.mem_of_getElem? hx, hn⟩).resolve_left fun e => ?_
      have := (h.good.zero hx).1 (hn.trans e)
      omega
    · cases hh
  · intro hi
    obtain ⟨i, hi2⟩ := atE_is ((h.built.names r).2 (.inr hi))
    rw [hi2]
    obtain ⟨x, hx, hn, _⟩ := atE_some.1 hi2
    refine decide_eq_true ?_
    rcases Nat.eq_zero_or_pos i with e | e
    · exact absurd (hn.symm.trans ((h.good.zero hx).2 e)) (ins_ne hi)
    · exact e
omit h in
theorem place_iff {e : List El} {r : RefD} : (placeV e r).2 = true ↔ r ∈ (seenE e).map (nm e) := by
  unfold placeV
  rw [List.mem_map]
  cases hp : placeE e r with
  | none =>
    rw [placeE, List.findIdx?_eq_none_iff] at hp
    refine ⟨fun h => (by cases h), fun ⟨i, hi, hn⟩ => ?_⟩
    have := hp i hi
    simp [hn] at this
  | some i =>
    rw [placeE, List.findIdx?_eq_some_iff_getElem] at hp
    obtain ⟨h1, h2, _⟩ := hp
    exact ⟨fun _ => ⟨_, List.getElem_mem h1, of_decide_eq_true h2⟩, fun _ => rfl⟩
theorem goneB_iff {r : RefD} : goneB T r = true ↔ DelOf L r := by
  rw [goneB, Bool.and_eq_true, hasE_iff h, Bool.not_eq_true', ← Bool.not_eq_true, place_iff]
  have := seenR_mem h (r := r)
  constructor
  · rintro ⟨h1, h2⟩
    exact Classical.byContradiction fun hn => h2 (this.2 ⟨h1, hn⟩)
  · intro hd
    exact ⟨del_ins h hd, fun hm => (this.1 hm).2 hd⟩
end
theorem grow_from {l : List ComD} (hk : HOk l) (hl : l.length ≤ 200) {S S' : Dig → Prop} (hS : Closed l S) (hS' : Closed l S') {T0 : Tr} (h0 : TreeOk (selS S l) T0) : ∀ k, k ≤ l.length →
    ∃ T, TreeOk (selS S l ++ selS (fun d => S' d ∧ ¬ S d) (l.take k)) T ∧ T0.e.length ≤ T.e.length ∧ (orderE T.e).filter (fun i => decide (i < T0.e.length)) = orderE T0.e ∧ ∀ i, i < T0.e.length → nm T.e i = nm T0.e i
  | 0, _ => ⟨T0, by rw [List.take_zero, show selS (fun d => S' d ∧ ¬ S d) [] = [] from rfl, List.append_nil]; exact h0, Nat.le_refl _, List.filter_eq_self.2 fun i hi => decide_eq_true (order_lt h0.good.down hi), fun _ _ => rfl⟩
  | k + 1, hkl => by
    obtain ⟨T, ht, hle, hord, hnm⟩ := grow_from hk hl hS hS' h0 k (by omega)
    obtain ⟨c, hc⟩ : ∃ c, l[k]? = some c := ⟨_, List.getElem?_eq_getElem (by omega)⟩
    have hcl := List.mem_of_getElem? hc
    by_cases hs : S' (idD c) ∧ ¬ S (idD c)
    · have hw : wrongC T (idD c) c.ops = 0 := by
        refine may_add hk hl ht (fun p hp => ?_) hc (fun hm => ?_) fun a ha hu => ?_
        · rcases List.mem_append.1 hp with hp | hp
          · obtain ⟨a, ha, _, rfl⟩ := sel_mem.1 hp
            exact ⟨a, ha, rfl⟩
          · obtain ⟨a, ha, _, rfl⟩ := sel_mem.1 hp
            exact ⟨a, List.mem_of_mem_take ha, rfl⟩
        · obtain ⟨p, hp, e⟩ := List.mem_map.1 hm
          rcases List.mem_append.1 hp with hp | hp
          · obtain ⟨a, ha, hsa, rfl⟩ := sel_mem.1 hp
            exact hs.2 (e ▸ hsa)
          · obtain ⟨a, ha, _, rfl⟩ := sel_mem.1 hp
            exact (hk k c hc).new (List.mem_map.2 ⟨a, ha, e⟩)
        · have hsa : S' (idD a) := by
            obtain ⟨p, hp, hpa⟩ := hu
            exact hS'.ab hpa (hS' c hcl hs.1 p hp)
          by_cases h2 : S (idD a)
          · exact List.mem_append_left _ (sel_mem.2 ⟨a, ha, h2, rfl⟩)
          · exact List.mem_append_right _ (sel_mem.2 ⟨a, anc_ahead hk hl hc ha hu, ⟨hsa, h2⟩, rfl⟩)
      obtain ⟨i1, i2, i3, i4⟩ := wrongC_zero hw
      have hid : idD c ∉ (selS S l ++ selS (fun d => S' d ∧ ¬ S d) (l.take k)).map (·.1) := by rw [← ht.ads]; exact i1
      have he : (addT T (idD c) c.ops).e = addN (idD c) c.ops T.e c.ops.length := by rw [addT, if_pos hw]
      have hord2 := addN_order ht.good ht.built hid i2 i4 c.ops.length (Nat.le_refl _)
      have hlen : T.e.length ≤ (addN (idD c) c.ops T.e c.ops.length).length := by
        have := (add_upto ht.good ht.built hid i2 i4 c.ops.length (Nat.le_refl _)).2.2
        omega
      refine ⟨addT T (idD c) c.ops, ?_, by rw [he]; omega, ?_, fun i hi => ?_⟩
      · rw [sel_yes hc hs, ← List.append_assoc]
        exact ht.add hw
      · rw [he, ← hord, ← hord2, List.filter_filter]
        refine List.filter_congr fun i _ => ?_
        by_cases hi : i < T0.e.length
        · simp [hi]; omega
        · simp [hi]
      · obtain ⟨x, hx⟩ : ∃ x, T.e[i]? = some x := ⟨_, List.getElem?_eq_getElem (by omega)⟩
        obtain ⟨y, hy, hn, _⟩ := addN_old (id := idD c) (ops := c.ops) (k := c.ops.length) hx
        rw [he, nm_at hy, hn, ← nm_at hx]
        exact hnm i hi
    · exact ⟨T, by rw [sel_no hc hs]; exact ht, hle, hord, hnm⟩
theorem names_sub {l : List ComD} (hk : HOk l) (hl : l.length ≤ 200) {S S' : Dig → Prop} (hS : Closed l S) (hS' : Closed l S') (hSS : ∀ d, S d → S' d) {T T' : Tr} (h : TreeOk (selS S l) T) (h' : TreeOk (selS S' l) T') : ((orderE T.e).map (nm T.e)).Sublist ((orderE T'.e).map (nm T'.e)) := by
  obtain ⟨U, hU, hle, hord, hnm⟩ := grow_from hk hl hS hS' h l.length (Nat.le_refl _)
  rw [List.take_length] at hU
  have hw := same_walk hU h' fun c => by
    rw [List.mem_append, sel_mem, sel_mem, sel_mem]
    constructor
    · rintro (⟨a, ha, h1, h2⟩ | ⟨a, ha, h1, h2⟩)
      · exact ⟨a, ha, hSS _ h1, h2⟩
      · exact ⟨a, ha, h1.1, h2⟩
    · rintro ⟨a, ha, h1, h2⟩
      by_cases h3 : S (idD a)
      · exact .inl ⟨a, ha, h3, h2⟩
      · exact .inr ⟨a, ha, ⟨h1, h3⟩, h2⟩
  have hn : (orderE U.e).map (nm U.e) = (orderE T'.e).map (nm T'.e) := by
    have := congrArg (List.map fun v : RefD × Bool × UInt8 => v.1) hw
    rw [List.map_map, List.map_map] at this
    exact this
  rw [← hn, ← hord]
  have : ((orderE U.e).filter (fun i => decide (i < T.e.length))).map (nm T.e) = ((orderE U.e).filter (fun i => decide (i < T.e.length))).map (nm U.e) := List.map_congr_left fun i hi => (hnm i (of_decide_eq_true (List.mem_filter.1 hi).2)).symm
  rw [this]
  exact List.Sublist.map _ List.filter_sublist
section
open Classical
theorem seen_names {L : Coms} {T : Tr} (h : TreeOk L T) : seenR T = ((orderE T.e).map (nm T.e)).filter fun r => decide (r ∈ seenR T) := by
  rw [seenR, List.filter_map, seenE]
  congr 1
  refine List.filter_congr fun i hi => ?_
  obtain ⟨x, hx⟩ : ∃ x, T.e[i]? = some x := ⟨_, List.getElem?_eq_getElem (order_lt h.good.down hi)⟩
  rw [Bool.eq_iff_iff, Function.comp_apply, decide_eq_true_iff, List.mem_map, goneAt_at hx]
  constructor
  · intro hg
    exact ⟨i, List.mem_filter.2 ⟨hi, by rw [goneAt_at hx]; exact hg⟩, rfl⟩
  · rintro ⟨j, hj, hn⟩
    obtain ⟨y, hy⟩ : ∃ y, T.e[j]? = some y := ⟨_, List.getElem?_eq_getElem (seen_lt h.good.down hj)⟩
    rw [nm_at hx, nm_at hy] at hn
    have := h.good.inj hy hx hn
    subst this
    have := (List.mem_filter.1 hj).2
    rwa [goneAt_at hx] at this
end
theorem seenR_nodup {L : Coms} {T : Tr} (h : TreeOk L T) : (seenR T).Nodup := by
  rw [seen_names h]; exact (names_nodup h).filter _
theorem sub_imp {l : List RefD} {p q : RefD → Bool} (h : ∀ r, p r = true → q r = true) : (l.filter p).Sublist (l.filter q) := by
  have : l.filter p = (l.filter q).filter p := by
    rw [List.filter_filter]
    refine List.filter_congr fun r _ => ?_
    cases hp : p r with
    | false => simp
    | true => simp [h r hp]
  rw [this]
  exact List.filter_sublist
theorem union_law {l : List ComD} {a b : List Dig} (h : mgE l a b = 0) : let s := trH l a; let t := trH l b; let m := trH l (mgL l a b)
    ((seenR s).filter fun r => !goneB t r).length + ((seenR t).filter fun r => !goneB s r && !hasE s.e r).length = (seenR m).length ∧ insB (goneB t) (seenR s) (seenR m) = true ∧ insB (goneB s) (seenR t) (seenR m) = true := by
  intro s t m
  obtain ⟨tx, _⟩ := mgE_ok.1 h
  obtain ⟨hl, hk, _⟩ := txE_ok.1 tx
  obtain ⟨ta, tb⟩ := ids_split tx
  have e : mgL l a b = hdL (ndsH l) (a ++ b) := if_pos h
  have hs : TreeOk (selS (Under (ndsH l) a) l) s := trH_ok hk hl a
  have ht : TreeOk (selS (Under (ndsH l) b) l) t := trH_ok hk hl b
  have hm : TreeOk (selS (Under (ndsH l) (a ++ b)) l) m := by
    have := trH_ok hk hl (mgL l a b)
    rw [e, under_hd tx, ← e] at this
    exact this
  have hu : ∀ d, Under (ndsH l) (a ++ b) d ↔ Under (ndsH l) a d ∨ Under (ndsH l) b d := fun d => by
    constructor
    · rintro ⟨x, hx, hd⟩
      rcases List.mem_append.1 hx with hx | hx
      · exact .inl ⟨x, hx, hd⟩
      · exact .inr ⟨x, hx, hd⟩
    · rintro (⟨x, hx, hd⟩ | ⟨x, hx, hd⟩)
      · exact ⟨x, List.mem_append_left _ hx, hd⟩
      · exact ⟨x, List.mem_append_right _ hx, hd⟩
  have hmem : ∀ c, c ∈ selS (Under (ndsH l) (a ++ b)) l ↔ c ∈ selS (Under (ndsH l) a) l ∨ c ∈ selS (Under (ndsH l) b) l := fun c => by
    rw [sel_mem, sel_mem, sel_mem]
    constructor
    · rintro ⟨x, hx, h1, h2⟩
      exact ((hu _).1 h1).imp (fun h3 => ⟨x, hx, h3, h2⟩) fun h3 => ⟨x, hx, h3, h2⟩
    · rintro (⟨x, hx, h1, h2⟩ | ⟨x, hx, h1, h2⟩)
      · exact ⟨x, hx, (hu _).2 (.inl h1), h2⟩
      · exact ⟨x, hx, (hu _).2 (.inr h1), h2⟩
  generalize selS (Under (ndsH l) (a ++ b)) l = Lm at *
  have hI : ∀ r, InsR Lm r ↔ InsR (selS (Under (ndsH l) a) l) r ∨ InsR (selS (Under (ndsH l) b) l) r := fun r => by
    constructor
    · rintro ⟨y, p, q, id, ops, k, x, h1, h2⟩
      exact ((hmem _).1 h1).imp (fun h3 => ⟨y, p, q, id, ops, k, x, h3, h2⟩) fun h3 => ⟨y, p, q, id, ops, k, x, h3, h2⟩
    · rintro (⟨y, p, q, id, ops, k, x, h1, h2⟩ | ⟨y, p, q, id, ops, k, x, h1, h2⟩)
      · exact ⟨y, p, q, id, ops, k, x, (hmem _).2 (.inl h1), h2⟩
      · exact ⟨y, p, q, id, ops, k, x, (hmem _).2 (.inr h1), h2⟩
  have hD : ∀ r, DelOf Lm r ↔ DelOf (selS (Under (ndsH l) a) l) r ∨ DelOf (selS (Under (ndsH l) b) l) r := fun r => by
    constructor
    · rintro ⟨id, ops, k, x, h1, h2⟩
      exact ((hmem _).1 h1).imp (fun h3 => ⟨id, ops, k, x, h3, h2⟩) fun h3 => ⟨id, ops, k, x, h3, h2⟩
    · rintro (⟨id, ops, k, x, h1, h2⟩ | ⟨id, ops, k, x, h1, h2⟩)
      · exact ⟨id, ops, k, x, (hmem _).2 (.inl h1), h2⟩
      · exact ⟨id, ops, k, x, (hmem _).2 (.inr h1), h2⟩
  have sm : ∀ r, r ∈ seenR m ↔ InsR Lm r ∧ ¬ DelOf Lm r := fun r => seenR_mem hm
  have ss : ∀ r, r ∈ seenR s ↔ _ := fun r => seenR_mem hs
  have st : ∀ r, r ∈ seenR t ↔ _ := fun r => seenR_mem ht
  have gs : ∀ r, goneB s r = true ↔ _ := fun r => goneB_iff hs
  have gt : ∀ r, goneB t r = true ↔ _ := fun r => goneB_iff ht
  have ks : ∀ r, hasE s.e r = true ↔ _ := fun r => hasE_iff hs
  refine ⟨?_, ?_, ?_⟩
  · rw [← List.length_append]
    have hn : (((seenR s).filter fun r => !goneB t r) ++ ((seenR t).filter fun r => !goneB s r && !hasE s.e r)).Nodup := by
      refine List.nodup_append.2 ⟨(seenR_nodup hs).filter _, (seenR_nodup ht).filter _, fun x hx y hy e => ?_⟩
      subst e
      have h1 := (ss x).1 (List.mem_filter.1 hx).1
      have h2 := (List.mem_filter.1 hy).2
      rw [Bool.and_eq_true, Bool.not_eq_true', Bool.not_eq_true', (ks x).2 h1.1] at h2
      cases h2.2
    refine ((List.perm_ext_iff_of_nodup hn (seenR_nodup hm)).2 fun r => ?_).length_eq
    rw [List.mem_append, List.mem_filter, List.mem_filter, sm, ss, st, hI, hD, Bool.not_eq_true', ← Bool.not_eq_true, gt, Bool.and_eq_true, Bool.not_eq_true', Bool.not_eq_true', ← Bool.not_eq_true, ← Bool.not_eq_true, gs, ks]
    constructor
    · rintro (⟨⟨h1, h2⟩, h3⟩ | ⟨⟨h1, h2⟩, h3, h4⟩)
      · exact ⟨.inl h1, fun h5 => h5.elim h2 h3⟩
      · exact ⟨.inr h1, fun h5 => h5.elim h3 h2⟩
    · rintro ⟨h1, h2⟩
      by_cases h3 : InsR (selS (Under (ndsH l) a) l) r
      · exact .inl ⟨⟨h3, fun h4 => h2 (.inl h4)⟩, fun h4 => h2 (.inr h4)⟩
      · exact .inr ⟨⟨h1.resolve_left h3, fun h4 => h2 (.inr h4)⟩, fun h4 => h2 (.inl h4), h3⟩
  · refine insB_sub ?_
    rw [seen_names hs, seen_names hm, List.filter_filter]
    refine List.Sublist.trans (List.Sublist.filter _ (names_sub hk hl (closed_under l a) (closed_under l (a ++ b)) (fun d hd => (hu d).2 (.inl hd)) hs (by
      have := trH_ok hk hl (mgL l a b); rw [e, under_hd tx, ← e] at this; exact this))) (sub_imp fun r hr => ?_)
    rw [Bool.and_eq_true, decide_eq_true_iff, ss, Bool.not_eq_true', ← Bool.not_eq_true, gt] at hr
    rw [decide_eq_true_iff, sm, hI, hD]
    exact ⟨.inl hr.2.1, fun h5 => h5.elim hr.2.2 hr.1⟩
  · refine insB_sub ?_
    rw [seen_names ht, seen_names hm, List.filter_filter]
    refine List.Sublist.trans (List.Sublist.filter _ (names_sub hk hl (closed_under l b) (closed_under l (a ++ b)) (fun d hd => (hu d).2 (.inr hd)) ht (by
      have := trH_ok hk hl (mgL l a b); rw [e, under_hd tx, ← e] at this; exact this))) (sub_imp fun r hr => ?_)
    rw [Bool.and_eq_true, decide_eq_true_iff, st, Bool.not_eq_true', ← Bool.not_eq_true, gs] at hr
    rw [decide_eq_true_iff, sm, hI, hD]
    exact ⟨.inr hr.2.1, fun h5 => h5.elim hr.1 hr.2.2⟩
end Go.Proofs.YtjbeooimhoilmaaDoor
/- HistoryUnion, walked: seen, inside, what is gone. No condition. -/
namespace Go.Proofs.YtjbeooimhoilmaaDoor
open Go.RowKit Go.Fw Go.Pl Go.Sort Go.Fu
section
variable {but : RefD → Bool} {l all A B : List RefD} {x a : Nat} {r y : RefD}
theorem insB_skip (h : l[x]? = some r) (hb : but r = true) : insB but (l.drop x) A = insB but (l.drop (x + 1)) A := by
  obtain ⟨hl, rfl⟩ := List.getElem?_eq_some_iff.1 h
  rw [List.drop_eq_getElem_cons hl, insB, if_pos hb]
theorem insB_stop (h : l[x]? = some r) (hb : ¬ but r = true) (hd : A.dropWhile (fun y => decide (y ≠ r)) = []) : insB but (l.drop x) A = false := by
  obtain ⟨hl, rfl⟩ := List.getElem?_eq_some_iff.1 h
  rw [List.drop_eq_getElem_cons hl, insB, if_neg hb, hd]
theorem insB_go (h : l[x]? = some r) (hb : ¬ but r = true) (hd : A.dropWhile (fun y => decide (y ≠ r)) = r :: B) : insB but (l.drop x) A = insB but (l.drop (x + 1)) B := by
  obtain ⟨hl, rfl⟩ := List.getElem?_eq_some_iff.1 h
  rw [List.drop_eq_getElem_cons hl, insB, if_neg hb, hd]
theorem dw_step (h : all[a]? = some y) (hn : y ≠ r) : (all.drop a).dropWhile (fun y => decide (y ≠ r)) = (all.drop (a + 1)).dropWhile (fun y => decide (y ≠ r)) := by
  obtain ⟨hl, rfl⟩ := List.getElem?_eq_some_iff.1 h
  rw [List.drop_eq_getElem_cons hl, List.dropWhile_cons, if_pos (by simpa using hn)]
theorem dw_hit (h : all[a]? = some r) : (all.drop a).dropWhile (fun y => decide (y ≠ r)) = r :: all.drop (a + 1) := by
  obtain ⟨hl, rfl⟩ := List.getElem?_eq_some_iff.1 h
  rw [List.drop_eq_getElem_cons hl, List.dropWhile_cons, if_neg (by simp)]
end
set_option maxRecDepth 100000 in
set_option maxHeartbeats 2000000 in
theorem seen_any (g rb ra : Nat) (ad : List Dig) (ns : List Nn) (w : World) (hT : FtAt w g rb ra ad ns) (hG : Fu.Good (Fw.els ns)) (hn : ns.length ≤ 400001) (hlv : (seenE (Fw.els ns)).length ≤ 400000) : Calls Tryd.prog 15 #[.pointer (some ⟨g, 0, none⟩)] w (Ret fun lv w' => Own w' 50 34 lv (((seenE (Fw.els ns)).map fun q => refC (nm (Fw.els ns) q)).flatten) ∧ (∀ k, lv.ownBlock = some k → w.heap.size ≤ k) ∧ Ext w w') := by
  obtain ⟨er, her⟩ : ∃ er : Nat → List Value, er = fun q => refC (nm (Fw.els ns) q) := ⟨_, rfl⟩
  have herl : ∀ q, (er q).length = 34 := fun q => by rw [her]; exact refC_length _
  refine calls_of_CN 17 [2] [(0, .pointer (some ⟨g, 0, none⟩))] Tryd.func15 rfl rfl rfl (by simp) args1 ?_
  have hE : Ext w w := Chg.refl
  refine CN.seq fun K1 hK1 => ?_
  refine CN.of_CW ?_
  refine CW.region ?_
  refine WL.val (Y.assign rfl) (by first | decide | exact Nat.le_of_ble_eq_true rfl) ?_
  refine WL.nil ?_
  refine hK1 _ _ _ ?_; try clear hK1 K1
  refine CN.seq fun K2 hK2 => ?_
  refine CN.of_CW ?_
  refine CW.region ?_
  refine WL.alloc1 (z := .slice none 0 0) (by kernel_rfl) rfl (by first | decide | exact Nat.le_of_ble_eq_true rfl) fun g3 w1 hx1 hg3 hB3 => ?_
  have hlt3 := hB3.lt; have hz1 := hx1.size
  have hM3 := hB3.mem; have hz1 := hx1.size; have hE := hE.thenExt hx1
  refine WL.nil ?_
  refine hK2 _ _ _ ?_; try clear hK2 K2
  refine CN.seq fun K3 hK3 => ?_
  refine CN.seq fun K4 hK4 => ?_
  refine CN.of_CW ?_
  refine CW.region ?_
  refine WL.val (Y.move rfl) (by first | decide | exact Nat.le_of_ble_eq_true rfl) ?_
  refine WL.call Tryd.func30 rfl rfl rfl (fall_any ⟨g, 0, none⟩ _) (by simp) ?_; rintro v6 w2 hR2
  obtain ⟨b, rfl, hgb, hBb, hx2⟩ := hR2
  have hz2 := hx2.size
  have hE := hE.thenExt hx2
  have hB3 := hB3.ext hx2
  have hT2 := hT.ext hE
  have hTl := fun q (hq : Fp g rb ra ns q) => hT.lt hq
  refine WL.nil ?_
  refine hK4 _ _ _ ?_; try clear hK4 K4
  refine CN.block ?_
  refine CN.rangeN (rfl) Tryd.func43 rfl rfl (fall1_any g rb ra ad ns b _ hT2 hG hn hBb) (fun _ => rfl) (by first | decide | exact Nat.le_of_ble_eq_true rfl) (fun _ h => h.elim) (fun w1 s V hz hs i hk => by have := hs.1; have := hk.1; omega) (fun s i V => w2.heap.size + 2 ≤ s.lo ∧ s.lo ≤ s.hi ∧ s.hi ≤ V.heap.size ∧ ∃ u, Blk V g3 45 [u] ∧ Own V 50 34 u ((((seenE (Fw.els ns)).take i).map er).flatten) ∧ (∀ q, u.ownBlock = some q → s.hi ≤ q) ∧ FtAt V g rb ra ad ns ∧ Ext w V) (fun _ e V => e = .exit 0 ∧ False) ?_ ?_ ?_ ?_ ?_ ?_ ?_
  · intro w1_ s_ V hw_ hz_ hc_ hs_
    exact ⟨by have := hs_.1; omega, hs_.2.1, hs_.2.2, .slice none 0 0, (hB3.ext hw_).ext hc_, Own.nil, (fun q h => by simp [Value.ownBlock] at h), (hT2.ext hw_).ext hc_, (hE.thenExt hw_).thenExt hc_⟩
  · intro s_ i_ V V_ hi_ hc_
    obtain ⟨hlo, hlh, hhi, u, hB3, hO, hf, hT, hE⟩ := hi_
    have hzc := hc_.size
    exact ⟨hlo, hlh, by omega, u, hB3.chg hc_ (fun h => by rcases h with h | h; exact h; omega), hO.chg hc_ (fun q hq h => by rcases h with h | h; exact h; have := hf q hq; omega), hf, hT.chg hc_ (fun q hq h => by rcases h with h | h; exact h; have := hTl q hq; omega), hE.step hc_ (fun k h => by rcases h with h | h; exact h.elim; omega)⟩
  · intro s_ e_ V V_ hi_ hc_
    exact hi_.2.elim
  · intro s_ i_ V hi_
    obtain ⟨_, _, _, _, _, _, _, hT, _⟩ := hi_
    exact hT.allN hG
  · intro s_ i_ x_ w3 hi_ hx_ hat_ hz_
    obtain ⟨hlo, hlh, hhi, u, hB3, hO, hf, hT, hE⟩ := hi_
    obtain ⟨q, hq, rfl⟩ : ∃ q, (seenE (Fw.els ns))[i_]? = some q ∧ (nm (Fw.els ns) q, byteAt (Fw.els ns) q) = x_ := by
      rw [allXs8, List.getElem?_map] at hx_
      exact Option.map_eq_some_iff.1 hx_
    have hil := (List.getElem?_eq_some_iff.1 hq).1
    have hil2 : ((seenE (Fw.els ns)).take i_).length = i_ := by rw [List.length_take]; omega
    have hult := hO.lt
    obtain ⟨uA, um, uc, rfl⟩ := hO.lens
    have hum : um = i_ := by
      have h1 := (hO.mem uA um uc rfl).2.2.1
      rw [flat_length herl, hil2] at h1
      omega
    subst hum
    refine CW.region ?_
    refine as_apiRef rfl (by simp) (by first | decide | exact Nat.le_of_ble_eq_true rfl) fun g4 w4 hx4 hg4 hB4 => ?_
    have hlt4 := hB4.lt; have hz4 := hx4.size
    have hM4 := hB4.mem; have hz4 := hx4.size; have hE := hE.thenExt hx4; have hB3 := hB3.ext hx4
    refine WL.nil ?_
    have hE_ : Ext w3 w4 := hx4
    refine ⟨hE_, fun w5 hc_ => ?_⟩
    have hz5 := hc_.size
    have hB3 := hB3.chg hc_ (fun h => by omega)
    have hB4 := hB4.chg hc_ (fun h => by omega)
    have hE := hE.step hc_ (fun k h => by omega)
    have hO := (hO.ext hx4).chg hc_ (fun k hk h => by have := hf k hk; omega)
    have hT := (hT.ext hx4).chg hc_ (fun k hk h => by have := hTl k hk; omega)
    refine CW.block ?_
    refine CW.seq fun K5 hK5 => ?_
    refine CW.seq fun K6 hK6 => ?_
    refine CW.region ?_
    refine WL.val (Y.load1 Tryd.underlying45 rfl hB3.mem.cell0 rfl) (by first | decide | exact Nat.le_of_ble_eq_true rfl) ?_
    refine WL.val (Y.len_slice Tryd.underlying45 rfl) (by first | decide | exact Nat.le_of_ble_eq_true rfl) ?_
    refine WL.val (Y.gtr rfl rfl) (by first | decide | exact Nat.le_of_ble_eq_true rfl) ?_
    refine WL.nil ?_
    refine hK6 _ _ ?_; try clear hK6 K6
    first | refine CW.condD rfl (fun ht7 => ?_) (fun ht7 => ?_) | refine CW.condND rfl (fun ht7 => ?_) (fun ht7 => ?_) | refine CW.condN rfl (fun ht7 => ?_) (fun ht7 => ?_) | refine CW.cond rfl (fun ht7 => ?_) (fun ht7 => ?_)
    · -- then
      refine CW.exit ?_
      exfalso; omega
    refine CW.skip ?_
    refine hK5 _ _ ?_; try clear hK5 K5
    refine CW.region ?_
    refine WL.val (Y.load1 Tryd.underlying45 rfl hB3.mem.cell0 rfl) (by first | decide | exact Nat.le_of_ble_eq_true rfl) ?_
    refine WL.val (Y.load Tryd.underlying50 rfl hB4.mem (sz_apiRef _) rfl) (by first | decide | exact Nat.le_of_ble_eq_true rfl) ?_
    refine WL.st (St.buildSlice rfl (bs1_ref _)) (by first | decide | exact Nat.le_of_ble_eq_true rfl) fun v14 w6 hR6 => ?_
    obtain ⟨g14, rfl, hg14, hB14, hx6⟩ := hR6
    have hz6 := hx6.size
    have hE := hE.thenExt hx6
    have hB3 := hB3.ext hx6
    have hB4 := hB4.ext hx6
    refine WL.st (St.append (m := 1) (news := refC (nm (Fw.els ns) q)) Tryd.underlying45 Tryd.underlying45 ai_ref rfl rfl (hO.ext hx6) (Fw.Src.one hB14 (refC_length _)) one_refC (by rw [flat_length herl, hil2]; omega)) (by first | decide | exact Nat.le_of_ble_eq_true rfl) fun v15 w7 hR7 => ?_
    obtain ⟨hO8, hc7, hf8⟩ := hR7
    have hz7 := hc7.size
    obtain ⟨vA, vm, vc, rfl⟩ := hO8.lens
    have hf8 : ∀ k, (Value.slice vA vm vc).ownBlock = some k → s_.hi ≤ k := fun k hk => by
      rcases hf8 with h | h
      · rw [h] at hk; exact hf k hk
      · have := h k hk; omega
    have hO8 : Own w7 50 34 (.slice vA vm vc) ((((seenE (Fw.els ns)).take (um + 1)).map er).flatten) := by
      rw [Go.Pl.take_succ hq, List.map_append, List.flatten_append]
      simpa [her] using hO8
    have hL7 : Chg (fun k => k = g3 ∨ s_.hi ≤ k) w5 w7 := (Ext.chg hx6).trans hc7 (fun k _ h => .inr (hf k h))
    have hE := hE.step hc7 (fun k h => by have := hf k h; omega)
    have hB3 := hB3.chg hc7 (fun h => by have := hf _ h; omega)
    have hB4 := hB4.chg hc7 (fun h => by have := hult _ h; omega)
    have hT := (hT.ext hx6).chg hc7 (fun k hk h => by have h1 := hTl k hk; have h2 := hf k h; omega)
    refine WL.store (g := g3) (pre := []) (old := [.slice uA um uc]) (post := []) (new := [.slice vA vm vc]) rfl rfl rfl rfl (by kernel_rfl) (by simpa using hB3) (by first | rfl | (simp [digC_length, opC_length]; done) | (simp only [digC_length, opC_length]; omega)) (one1 rfl) (fun w8 hc8 hB8_ => ?_)
    have hz8 := hc8.size; have hE := hE.step hc8 (fun k h => by omega); have hB4 := hB4.chg hc8 (fun h => by omega)
    have hB3 : Blk w8 g3 45 [.slice vA vm vc] := by simpa using hB8_
    have hO9 := hO8.chg hc8 (fun k hk h => by have := hf8 k hk; omega)
    have hT := hT.chg hc8 (fun k hk h => by have := hTl k hk; omega)
    have hL8 : Chg (fun k => k = g3 ∨ s_.hi ≤ k) w5 w8 := hL7.trans hc8 (fun k _ h => .inl h)
    refine WL.nil ?_
    exact ⟨⟨hlo, hlh, by omega, _, hB3, hO9, hf8, hT, hE⟩, hL8.mono fun k _ h => ⟨fun hk => by have h1 := hk.1; have h2 := hk.2; omega, by omega, by omega⟩⟩
  · intro s_ w9 hi_ hD_ hfin_
    obtain ⟨hlo, hlh, hhi, u, hB3, hO, hf, hT, hE⟩ := hi_
    have hxl : (allXs8 (Fw.els ns) s_).length = (seenE (Fw.els ns)).length := by simp only [allXs8, List.length_map]
    rw [hxl, List.take_of_length_le (Nat.le_refl _)] at hO
    obtain ⟨uA, um, uc, rfl⟩ := hO.lens
    refine hK3 _ _ _ ?_; try clear hK3 K3
    refine CN.seq fun K8 hK8 => ?_
    refine CN.of_CW ?_
    refine CW.region ?_
    refine WL.val (Y.load1 Tryd.underlying45 rfl hB3.mem.cell0 rfl) (by first | decide | exact Nat.le_of_ble_eq_true rfl) ?_
    refine WL.val (Y.assign rfl) (by first | decide | exact Nat.le_of_ble_eq_true rfl) ?_
    refine WL.nil ?_
    refine hK8 _ _ _ ?_; try clear hK8 K8
    refine CN.ret ?_
    exact ⟨[w2.heap.size], rfl, by simp, (fun D hD => by simp at hD; subst hD; exact hD_), _, rfl, fun w_ hc => ⟨(by rw [her] at hO; exact hO.chg hc (fun k hk h => by simp at h; have := hf k hk; omega)), (fun k hk => by have := hf k hk; omega), hE.step hc (fun k h => by simp at h; omega)⟩⟩
  · intro s_ e_ w10 hi_ hD_ hfin_ he_
    exact hi_.2.elim
theorem gone1_any (b g rb ra : Nat) (ad : List Dig) (ns : List Nn) (r : RefD) (w : World) (hB : Blk w b 42 [.pointer (some ⟨g, 0, none⟩)]) (hT : FtAt w g rb ra ad ns) (hG : Fu.Good (Fw.els ns)) (hn : ns.length ≤ 400001) : Calls Tryd.prog 16 #[refV r, .pointer (some ⟨b, 0, none⟩)] w (Ret fun v w' => v = .bool (hasE (Fw.els ns) r && !(placeV (Fw.els ns) r).2) ∧ Ext w w') := by
  refine calls_of_CW 19 [3] [(0, refV r), (1, .pointer (some ⟨b, 0, none⟩))] Tryd.func16 rfl rfl rfl (by simp) args2 ?_
  have hE : Ext w w := Chg.refl
  refine CW.seq fun K1 hK1 => ?_
  refine CW.region ?_
  refine WL.box rfl rfl (by decide) fun g2 w1 hx1 hg2 hB2 => ?_
  have hlt2 := hB2.lt; have hz1 := hx1.size
  have hM2 := hB2.mem; have hz1 := hx1.size; have hE := hE.thenExt hx1
  refine WL.val (Y.assign rfl) (by decide) ?_
  refine WL.nil ?_
  refine hK1 _ _ ?_; try clear hK1 K1
  refine CW.seq fun K2 hK2 => ?_
  refine CW.region ?_
  refine WL.val (Y.load1 Tryd.underlying42 rfl (hB.ext hE).mem.cell0 rfl) (by decide) ?_
  refine WL.val (Y.load Tryd.underlying50 rfl hB2.mem (sz_apiRef _) rfl) (by decide) ?_
  refine WL.call Tryd.func17 rfl rfl rfl (fplace_any g rb ra ad ns r _ (hT.ext hE) hG hn) (by simp) ?_; rintro v w2 ⟨rfl, hx2⟩; have hz2 := hx2.size; have hE := hE.thenExt hx2; have hB2 := hB2.ext hx2
  refine WL.val (Y.move rfl) (by decide) ?_
  refine WL.val (Y.extract rfl rfl) (by decide) ?_
  refine WL.val (Y.extract rfl rfl) (by decide) ?_
  refine WL.val (Y.assign rfl) (by decide) ?_
  refine WL.val (Y.assign rfl) (by decide) ?_
  refine WL.nil ?_
  refine hK2 _ _ ?_; try clear hK2 K2
  refine CW.seq fun K3 hK3 => ?_
  refine CW.region ?_
  refine WL.val (Y.load1 Tryd.underlying42 rfl (hB.ext hE).mem.cell0 rfl) (by decide) ?_
  refine WL.val (Y.load Tryd.underlying50 rfl hB2.mem (sz_apiRef _) rfl) (by decide) ?_
  refine WL.call Tryd.func18 rfl rfl rfl (fhas_any g rb ra ad ns r _ (hT.ext hE) hG) (by simp) ?_; rintro v w3 ⟨rfl, hx3⟩; have hz3 := hx3.size; have hE := hE.thenExt hx3; have hB2 := hB2.ext hx3
  refine WL.val (Y.move rfl) (by decide) ?_
  first | refine WL.casesD (d := 15) rfl (fun hg15 => ?_) (fun hg15 => ?_) | refine WL.casesND (d := 15) rfl (fun hg15 => ?_) (fun hg15 => ?_) | refine WL.cases (d := 15) rfl (fun hg15 => ?_) (fun hg15 => ?_)
  · -- t15 = T
    refine WL.gval rfl rfl (Y.move rfl) (by decide) ?_
    refine WL.gval rfl rfl (Y.not rfl) (by decide) ?_
    refine WL.val (Y.pick rfl rfl) (by decide) ?_
    refine WL.val (Y.assign rfl) (by decide) ?_
    refine WL.nil ?_
    refine hK3 _ _ ?_; try clear hK3 K3
    refine CW.ret ⟨_, rfl, ?_⟩
    exact ⟨by rw [show hasE (Fw.els ns) r = true by simp_all, Bool.true_and], hE⟩
  · -- t15 = F
    refine WL.goff rfl rfl (by decide) ?_
    refine WL.goff rfl rfl (by decide) ?_
    refine WL.val (Y.pick rfl rfl) (by decide) ?_
    refine WL.val (Y.assign rfl) (by decide) ?_
    refine WL.nil ?_
    refine hK3 _ _ ?_; try clear hK3 K3
    refine CW.ret ⟨_, rfl, ?_⟩
    exact ⟨by rw [show hasE (Fw.els ns) r = false by simp_all, Bool.false_and], hE⟩
theorem gone2_any (b g rb ra : Nat) (ad : List Dig) (ns : List Nn) (r : RefD) (w : World) (hB : Blk w b 42 [.pointer (some ⟨g, 0, none⟩)]) (hT : FtAt w g rb ra ad ns) (hG : Fu.Good (Fw.els ns)) (hn : ns.length ≤ 400001) : Calls Tryd.prog 19 #[refV r, .pointer (some ⟨b, 0, none⟩)] w (Ret fun v w' => v = .bool (hasE (Fw.els ns) r && !(placeV (Fw.els ns) r).2) ∧ Ext w w') := by
  refine calls_of_CW 19 [3] [(0, refV r), (1, .pointer (some ⟨b, 0, none⟩))] Tryd.func19 rfl rfl rfl (by simp) args2 ?_
  have hE : Ext w w := Chg.refl
  refine CW.seq fun K1 hK1 => ?_
  refine CW.region ?_
  refine WL.box rfl rfl (by decide) fun g2 w1 hx1 hg2 hB2 => ?_
  have hlt2 := hB2.lt; have hz1 := hx1.size
  have hM2 := hB2.mem; have hz1 := hx1.size; have hE := hE.thenExt hx1
  refine WL.val (Y.assign rfl) (by decide) ?_
  refine WL.nil ?_
  refine hK1 _ _ ?_; try clear hK1 K1
  refine CW.seq fun K2 hK2 => ?_
  refine CW.region ?_
  refine WL.val (Y.load1 Tryd.underlying42 rfl (hB.ext hE).mem.cell0 rfl) (by decide) ?_
  refine WL.val (Y.load Tryd.underlying50 rfl hB2.mem (sz_apiRef _) rfl) (by decide) ?_
  refine WL.call Tryd.func17 rfl rfl rfl (fplace_any g rb ra ad ns r _ (hT.ext hE) hG hn) (by simp) ?_; rintro v w2 ⟨rfl, hx2⟩; have hz2 := hx2.size; have hE := hE.thenExt hx2; have hB2 := hB2.ext hx2
  refine WL.val (Y.move rfl) (by decide) ?_
  refine WL.val (Y.extract rfl rfl) (by decide) ?_
  refine WL.val (Y.extract rfl rfl) (by decide) ?_
  refine WL.val (Y.assign rfl) (by decide) ?_
  refine WL.val (Y.assign rfl) (by decide) ?_
  refine WL.nil ?_
  refine hK2 _ _ ?_; try clear hK2 K2
  refine CW.seq fun K3 hK3 => ?_
  refine CW.region ?_
  refine WL.val (Y.load1 Tryd.underlying42 rfl (hB.ext hE).mem.cell0 rfl) (by decide) ?_
  refine WL.val (Y.load Tryd.underlying50 rfl hB2.mem (sz_apiRef _) rfl) (by decide) ?_
  refine WL.call Tryd.func18 rfl rfl rfl (fhas_any g rb ra ad ns r _ (hT.ext hE) hG) (by simp) ?_; rintro v w3 ⟨rfl, hx3⟩; have hz3 := hx3.size; have hE := hE.thenExt hx3; have hB2 := hB2.ext hx3
  refine WL.val (Y.move rfl) (by decide) ?_
  first | refine WL.casesD (d := 15) rfl (fun hg15 => ?_) (fun hg15 => ?_) | refine WL.casesND (d := 15) rfl (fun hg15 => ?_) (fun hg15 => ?_) | refine WL.cases (d := 15) rfl (fun hg15 => ?_) (fun hg15 => ?_)
  · -- t15 = T
    refine WL.gval rfl rfl (Y.move rfl) (by decide) ?_
    refine WL.gval rfl rfl (Y.not rfl) (by decide) ?_
    refine WL.val (Y.pick rfl rfl) (by decide) ?_
    refine WL.val (Y.assign rfl) (by decide) ?_
    refine WL.nil ?_
    refine hK3 _ _ ?_; try clear hK3 K3
    refine CW.ret ⟨_, rfl, ?_⟩
    exact ⟨by rw [show hasE (Fw.els ns) r = true by simp_all, Bool.true_and], hE⟩
  · -- t15 = F
    refine WL.goff rfl rfl (by decide) ?_
    refine WL.goff rfl rfl (by decide) ?_
    refine WL.val (Y.pick rfl rfl) (by decide) ?_
    refine WL.val (Y.assign rfl) (by decide) ?_
    refine WL.nil ?_
    refine hK3 _ _ ?_; try clear hK3 K3
    refine CW.ret ⟨_, rfl, ?_⟩
    exact ⟨by rw [show hasE (Fw.els ns) r = false by simp_all, Bool.false_and], hE⟩
set_option maxRecDepth 100000 in
set_option maxHeartbeats 2000000 in
theorem inside_any (u v : Value) (l all : List RefD) (gf : Nat) (cap : List Value) (fn : Func) (but : RefD → Bool) (w : World) (hl : Sl w refC 34 u l) (hall : Sl w refC 34 v all) (hf : Tryd.prog.funcs[gf]? = some fn) (hb : fn.body.isNone = false) (hnn : (fn.name == "runtime.NumGoroutine") = false) (hbut : ∀ (r : RefD) (w1 : World), Ext w w1 → Calls Tryd.prog gf (refV r :: cap).toArray w1 (Ret fun v w' => v = .bool (but r) ∧ Ext w1 w')) : Calls Tryd.prog 20 #[u, v, .func (.func gf) #[] cap.toArray] w (Ret fun v w' => v = .bool (insB but l all) ∧ Ext w w') := by
  obtain ⟨A, m, c, rfl, hm, hmc, hcm, _⟩ := _root_.id hl
  unfold maxLen at hcm
  obtain ⟨A2, m2, c2, rfl, hm2, hmc2, hcm2, _⟩ := _root_.id hall
  unfold maxLen at hcm2
  refine calls_of_CW 40 [6] [(0, .slice A m c), (1, .slice A2 m2 c2), (2, .func (.func gf) #[] cap.toArray)] Tryd.func20 rfl rfl rfl (by simp) args3 ?_
  have hE : Ext w w := Chg.refl
  refine CW.seq fun K1 hK1 => ?_
  refine CW.region ?_
  refine WL.val (Y.assign rfl) (by decide) ?_
  refine WL.nil ?_
  refine hK1 _ _ ?_; try clear hK1 K1
  refine CW.seq fun K2 hK2 => ?_
  refine CW.region ?_
  refine WL.val (Y.assign rfl) (by decide) ?_
  refine WL.nil ?_
  refine hK2 _ _ ?_; try clear hK2 K2
  refine CW.seq fun K3 hK3 => ?_
  refine CW.seq fun K4 hK4 => ?_
  refine CW.region ?_
  refine WL.val (Y.move rfl) (by decide) ?_
  refine WL.val (Y.len_slice Tryd.underlying45 rfl) (by decide) ?_
  refine WL.val (Y.move rfl) (by decide) ?_
  refine WL.nil ?_
  refine hK4 _ _ ?_; try clear hK4 K4
  refine CW.block ?_
  refine CW.loop (X := Nat × Nat) (fun x => [(1, .slice A2 m2 c2), (2, .func (.func gf) #[] cap.toArray), (7, .int .i64 (x.2 : Int)), (10, .slice A m c), (11, .int .i64 (m : Int)), (12, .int .i64 (x.1 : Int))]) (fun x w0 => x.1 ≤ m ∧ x.2 ≤ m2 ∧ insB but l all = insB but (l.drop x.1) (all.drop x.2) ∧ Ext w w0) (fun x => m - x.1) (0, 0) (by repeat (first | exact Fr.le.nil | refine Fr.le.cons rfl ?_)) ⟨Nat.zero_le _, Nat.zero_le _, rfl, hE⟩ ?_
  intro x w1 hl1
  clear hE
  obtain ⟨i, at_⟩ := x
  dsimp only at hl1 ⊢
  obtain ⟨hxm, ham, hin, hE⟩ := hl1
  have hzE := hE.size
  refine CW.seq fun K5 hK5 => ?_
  refine CW.region ?_
  refine WL.val (Y.lss rfl rfl) (by decide) ?_
  refine WL.nil ?_
  refine hK5 _ _ ?_; try clear hK5 K5
  refine CW.seq fun K6 hK6 => ?_
  first | refine CW.condD rfl (fun ht7 => ?_) (fun ht7 => ?_) | refine CW.condND rfl (fun ht7 => ?_) (fun ht7 => ?_) | refine CW.condN rfl (fun ht7 => ?_) (fun ht7 => ?_) | refine CW.cond rfl (fun ht7 => ?_) (fun ht7 => ?_)
  · -- then
    refine CW.skip ?_
    refine hK6 _ _ ?_; try clear hK6 K6
    obtain ⟨r, hr⟩ : ∃ r, l[i]? = some r := ⟨_, List.getElem?_eq_getElem (by omega)⟩
    obtain ⟨a1, rfl, hmr⟩ := hl.at hr
    refine CW.seq_to (X := Nat) (fun at_ => [(1, .slice A2 m2 c2), (2, .func (.func gf) #[] cap.toArray), (7, .int .i64 (at_ : Int)), (10, .slice (some a1) m c), (11, .int .i64 (m : Int)), (12, .int .i64 (i : Int))]) (fun at_ w0 => at_ ≤ m2 ∧ insB but l all = insB but (l.drop (i + 1)) (all.drop at_) ∧ Ext w w0) ?_ ?_
    · skip
      refine CW.block ?_
      refine CW.seq fun K9 hK9 => ?_
      refine CW.region ?_
      refine WL.val (Y.indexAddrN Tryd.underlying45 rfl rfl sz0_apiRef (by omega)) (by decide) ?_
      refine WL.val (Y.load Tryd.underlying50 rfl (hmr.ext hE) (sz_apiRef _) rfl) (by decide) ?_
      refine as_apiRef rfl (by simp) (by decide) fun g9 w2 hx2 hg9 hB9 => ?_
      have hlt9 := hB9.lt; have hz2 := hx2.size
      have hM9 := hB9.mem; have hz2 := hx2.size; have hE := hE.thenExt hx2
      refine WL.nil ?_
      refine hK9 _ _ ?_; try clear hK9 K9
      refine CW.seq fun K10 hK10 => ?_
      refine CW.seq fun K11 hK11 => ?_
      refine CW.region ?_
      refine WL.val (Y.move rfl) (by decide) ?_
      refine WL.val (Y.load Tryd.underlying50 rfl hB9.mem (sz_apiRef _) rfl) (by decide) ?_
      refine WL.callV rfl hf hb hnn rfl (hbut r _ hE) (by simp) ?_; rintro v18 w3 hR3
      obtain ⟨rfl, hx3⟩ := hR3
      have hz3 := hx3.size
      have hE := hE.thenExt hx3
      have hB9 := hB9.ext hx3
      refine WL.nil ?_
      refine hK11 _ _ ?_; try clear hK11 K11
      first | refine CW.condD rfl (fun ht12 => ?_) (fun ht12 => ?_) | refine CW.condND rfl (fun ht12 => ?_) (fun ht12 => ?_) | refine CW.condN rfl (fun ht12 => ?_) (fun ht12 => ?_) | refine CW.cond rfl (fun ht12 => ?_) (fun ht12 => ?_)
      · -- then
        refine CW.exit ?_
        exact ⟨at_, (by repeat (first | exact Fr.le.nil | refine Fr.le.cons rfl ?_)), ham, by rw [hin]; exact insB_skip hr (by assumption), hE⟩
      refine CW.skip ?_
      refine hK10 _ _ ?_; try clear hK10 K10
      refine CW.seq fun K13 hK13 => ?_
      refine CW.block ?_
      refine CW.loop (X := Nat) (fun x => [(1, .slice A2 m2 c2), (2, .func (.func gf) #[] cap.toArray), (7, .int .i64 (x : Int)), (10, .slice (some a1) m c), (11, .int .i64 (m : Int)), (12, .int .i64 (i : Int)), (9, .pointer (some ⟨g9, 0, none⟩))]) (fun x w0 => x ≤ m2 ∧ (all.drop at_).dropWhile (fun y => decide (y ≠ r)) = (all.drop x).dropWhile (fun y => decide (y ≠ r)) ∧ Ext w w0 ∧ Blk w0 g9 50 (refC r)) (fun x => m2 - x) at_ (by repeat (first | exact Fr.le.nil | refine Fr.le.cons rfl ?_)) ⟨ham, rfl, hE, hB9⟩ ?_
      intro x w4 hl4
      clear hE hB9
      obtain ⟨ham2, hdw, hE, hB9⟩ := hl4
      have hzE := hE.size
      refine CW.seq fun K14 hK14 => ?_
      obtain ⟨y, hy⟩ : ∃ y, x < m2 → all[x]? = some y := by
        by_cases h : x < m2
        · exact ⟨all[x]'(hm2 ▸ h), fun _ => List.getElem?_eq_getElem _⟩
        · exact ⟨r, fun h2 => absurd h2 h⟩
      refine CW.seq_testE 30 ((x : Int) < (m2 : Int) ∧ y ≠ r) ?_ ?_
      · refine CW.quiet (fun wq => Ext w4 wq) (by kernel_rfl) (by kernel_rfl) Chg.drew ?_
        refine QL.val (fun wq hq => Y.move rfl) (by decide) ?_
        refine QL.val (fun wq hq => Y.move rfl) (by decide) ?_
        refine QL.val (fun wq hq => Y.len_slice Tryd.underlying45 rfl) (by decide) ?_
        refine QL.val (fun wq hq => Y.lss rfl rfl) (by decide) ?_
        refine QL.val (fun wq hq => Y.move rfl) (by decide) ?_
        first | refine QL.casesD (d := 23) rfl (fun hg23 => ?_) (fun hg23 => ?_) | refine QL.casesND (d := 23) rfl (fun hg23 => ?_) (fun hg23 => ?_) | refine QL.cases (d := 23) rfl (fun hg23 => ?_) (fun hg23 => ?_)
        · -- t23 = T
          obtain ⟨aA, rfl, hmy⟩ := hall.at (hy (by omega))
          refine QL.gval rfl rfl (fun wq hq => Y.move rfl) (by decide) ?_
          refine QL.gval rfl rfl (fun wq hq => Y.move rfl) (by decide) ?_
          refine QL.gval rfl rfl (fun wq hq => Y.indexAddrN Tryd.underlying45 rfl rfl sz0_apiRef (by omega)) (by decide) ?_
          refine QL.gval rfl rfl (fun wq hq => Y.load Tryd.underlying50 rfl ((hmy.ext hE).ext hq) (sz_apiRef _) rfl) (by decide) ?_
          refine QL.gval rfl rfl (fun wq hq => Y.load Tryd.underlying50 rfl (hB9.ext hq).mem (sz_apiRef _) rfl) (by decide) ?_
          refine QL.gval rfl rfl (fun wq hq => Y.neq_apiRef rfl rfl) (by decide) ?_
          refine QL.val (fun wq hq => Y.pick rfl rfl) (by decide) ?_
          refine QL.nil fun wq hq => ⟨⟨_, rfl, ?_⟩, hq, (by repeat (first | exact Fr.le.refl | refine Fr.le.push rfl ?_))⟩
          first | (simp only [*, Int.natCast_inj, Bool.not_eq_true', decide_eq_false_iff_not, decide_eq_true_eq, not_true_eq_false, not_false_eq_true, true_and, false_and, and_true, and_false, false_or, or_false, true_or, or_true, iff_true, true_iff, iff_false, false_iff]; done) | (simp_all; done) | (refine congrArg Value.bool (Bool.eq_iff_iff.2 ?_); simp_all; done) | (simp_all; omega)
        · -- t23 = F
          refine QL.goff rfl rfl (by decide) ?_
          refine QL.goff rfl rfl (by decide) ?_
          refine QL.goff rfl rfl (by decide) ?_
          refine QL.goff rfl rfl (by decide) ?_
          refine QL.goff rfl rfl (by decide) ?_
          refine QL.goff rfl rfl (by decide) ?_
          refine QL.val (fun wq hq => Y.pick rfl rfl) (by decide) ?_
          refine QL.nil fun wq hq => ⟨⟨_, rfl, ?_⟩, hq, (by repeat (first | exact Fr.le.refl | refine Fr.le.push rfl ?_))⟩
          first | (simp only [*, Int.natCast_inj, Bool.not_eq_true', decide_eq_false_iff_not, decide_eq_true_eq, not_true_eq_false, not_false_eq_true, true_and, false_and, and_true, and_false, false_or, or_false, true_or, or_true, iff_true, true_iff, iff_false, false_iff]; done) | (simp_all; done) | (refine congrArg Value.bool (Bool.eq_iff_iff.2 ?_); simp_all; done) | (simp_all; omega)
      intro w5 hx5; have hz5 := hx5.size; have hE := hE.thenExt hx5; have hB9 := hB9.ext hx5
      first | refine CW.condD rfl (fun ht15 => ?_) (fun ht15 => ?_) | refine CW.condND rfl (fun ht15 => ?_) (fun ht15 => ?_) | refine CW.condN rfl (fun ht15 => ?_) (fun ht15 => ?_) | refine CW.cond rfl (fun ht15 => ?_) (fun ht15 => ?_)
      · -- then
        refine CW.skip ?_
        refine hK14 _ _ ?_; try clear hK14 K14
        refine CW.block ?_
        refine CW.region ?_
        refine WL.val (Y.move rfl) (by decide) ?_
        refine WL.val (Y.add rfl rfl ⟨by omega, by omega⟩) (by decide) ?_
        refine WL.val (Y.assign rfl) (by decide) ?_
        refine WL.nil ?_
        exact ⟨x + 1, by show m2 - (x + 1) < m2 - x; omega, (by repeat (first | exact Fr.le.nil | refine Fr.le.cons rfl ?_)), by show x + 1 ≤ m2; omega, by rw [hdw]; exact dw_step (hy (by omega)) (by assumption : (x : Int) < (m2 : Int) ∧ y ≠ r).2, hE, hB9⟩
      refine CW.exit ?_
      refine hK13 _ _ ?_; try clear hK13 K13
      refine CW.seq fun K16 hK16 => ?_
      refine CW.seq fun K17 hK17 => ?_
      refine CW.region ?_
      refine WL.val (Y.move rfl) (by decide) ?_
      refine WL.val (Y.move rfl) (by decide) ?_
      refine WL.val (Y.len_slice Tryd.underlying45 rfl) (by decide) ?_
      refine WL.val (Y.eql rfl rfl) (by decide) ?_
      refine WL.nil ?_
      refine hK17 _ _ ?_; try clear hK17 K17
      first | refine CW.condD rfl (fun ht18 => ?_) (fun ht18 => ?_) | refine CW.condND rfl (fun ht18 => ?_) (fun ht18 => ?_) | refine CW.condN rfl (fun ht18 => ?_) (fun ht18 => ?_) | refine CW.cond rfl (fun ht18 => ?_) (fun ht18 => ?_)
      · -- then
        refine CW.seq fun K19 hK19 => ?_
        refine CW.region ?_
        refine WL.val (Y.assign rfl) (by decide) ?_
        refine WL.nil ?_
        refine hK19 _ _ ?_; try clear hK19 K19
        refine CW.ret ⟨_, rfl, ?_⟩
        exact ⟨by rw [hin, insB_stop hr (by rw [show but r = false by assumption]; decide) (by rw [hdw, List.drop_of_length_le (by omega)]; rfl)], hE⟩
      refine CW.skip ?_
      refine hK16 _ _ ?_; try clear hK16 K16
      refine CW.region ?_
      refine WL.val (Y.move rfl) (by decide) ?_
      refine WL.val (Y.add rfl rfl ⟨by omega, by omega⟩) (by decide) ?_
      refine WL.val (Y.assign rfl) (by decide) ?_
      refine WL.nil ?_
      have hyr : y = r := Classical.byContradiction fun hne => absurd (And.intro (by omega) hne) (by assumption : ¬ ((x : Int) < (m2 : Int) ∧ y ≠ r))
      exact ⟨x + 1, (by repeat (first | exact Fr.le.nil | refine Fr.le.cons rfl ?_)), by omega, by rw [hin]; exact insB_go hr (by rw [show but r = false by assumption]; decide) (by rw [hdw]; exact dw_hit (by rw [hy (by omega), hyr])), hE⟩
    rintro u w6 hj6
    clear hE
    obtain ⟨ham, hin, hE⟩ := hj6
    refine CW.region ?_
    refine WL.val (Y.add rfl rfl ⟨by omega, by omega⟩) (by decide) ?_
    refine WL.val (Y.move rfl) (by decide) ?_
    refine WL.nil ?_
    exact ⟨(i + 1, u), by show m - (i + 1) < m - i; omega, (by repeat (first | exact Fr.le.nil | refine Fr.le.cons rfl ?_)), by show i + 1 ≤ m; omega, ham, hin, hE⟩
  refine CW.exit ?_
  refine hK3 _ _ ?_; try clear hK3 K3
  refine CW.seq fun K20 hK20 => ?_
  refine CW.region ?_
  refine WL.val (Y.assign rfl) (by decide) ?_
  refine WL.nil ?_
  refine hK20 _ _ ?_; try clear hK20 K20
  refine CW.ret ⟨_, rfl, ?_⟩
  have hxe : i = m := by omega
  exact ⟨by rw [hin, List.drop_of_length_le (by omega)]; rfl, hE⟩
end Go.Proofs.YtjbeooimhoilmaaDoor
