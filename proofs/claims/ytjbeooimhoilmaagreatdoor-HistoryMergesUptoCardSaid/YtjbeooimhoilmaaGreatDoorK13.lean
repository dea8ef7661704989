/- Parts of a proof: what its last text leans on. No condition. -/
import Derived.Test.YtjbeooimhoilmaaGreatDoorK12
set_option linter.unusedSimpArgs false
set_option linter.unusedVariables false
/- Several texts as one: Gt, Gu, Gp, Gq, Gw, Gx. -/
/- The order of marked nodes: what it computes. No condition. -/
namespace Go.Pl
open Go.Fw
end Go.Pl
/- The order of marked nodes, walked. No condition. (NOT BUILT: fills are lacking) -/
namespace Go.Proofs.YtjbeooimhoilmaaGreatDoor
open Go.RowKit Go.Fw Go.Pl Go.Sort
end Go.Proofs.YtjbeooimhoilmaaGreatDoor
/- The plain law of graphs: which stands above which; marks, heads, orders as both sides make them. No condition; no program. -/
namespace Go.Pl
open Go.Fw
variable {l : List Nd}
theorem ids_at {i : Nat} {n : Nd} (h : l[i]? = some n) : (idsL l)[i]? = some n.id := by simp [idsL, h]
theorem ok_new (h : (readE l).2 = 0) {i : Nat} {n : Nd} (hi : l[i]? = some n) : n.id ∉ idsL (l.take i) := (wrong_ok (ok_at h hi)).2.2.1
theorem take_ids {j i : Nat} {n : Nd} (hj : l[j]? = some n) (h : j < i) : n.id ∈ idsL (l.take i) :=
 List.mem_map.2 ⟨n, List.mem_of_getElem? (i := j) (by rw [List.getElem?_take, if_pos h]; exact hj), rfl⟩
theorem ixN_at (h : (readE l).2 = 0) {i : Nat} {n : Nd} (hi : l[i]? = some n) : ixN l n.id = i := by
 have h1 := findI_at (ids := idsL l) (i := i) (ids_at hi) (fun j hj he => by
  obtain ⟨m, hm, hme⟩ : ∃ m, l[j]? = some m ∧ m.id = n.id := by simpa [idsL] using he
  exact ok_new h hi (hme ▸ take_ids hm hj))
 rw [findI, if_pos (List.mem_of_getElem? (ids_at hi))] at h1
 unfold ixN; omega
theorem at_ixN {d : Dig} (h : d ∈ idsL l) : ∃ n, l[ixN l d]? = some n ∧ n.id = d := by
 have hlt := ixN_lt h
 refine ⟨l[ixN l d], List.getElem?_eq_getElem hlt, ?_⟩
 have h1 : (idsL l)[(idsL l).idxOf d]'(List.idxOf_lt_length_iff.2 h) = d := List.getElem_idxOf (List.idxOf_lt_length_iff.2 h)
 simp only [idsL, List.getElem_map] at h1
 exact h1
theorem ixN_inj {a b : Dig} (ha : a ∈ idsL l) (hb : b ∈ idsL l) (h : ixN l a = ixN l b) : a = b := by
 obtain ⟨n, hn, rfl⟩ := at_ixN ha
 obtain ⟨m, hm, rfl⟩ := at_ixN hb
 rw [h, hm] at hn; cases hn; rfl
theorem mem_ids_at {i : Nat} {n : Nd} (h : l[i]? = some n) : n.id ∈ idsL l := List.mem_of_getElem? (ids_at h)
theorem ix_par (h : (readE l).2 = 0) {i : Nat} {n : Nd} (hi : l[i]? = some n) {p : Dig} (hp : p ∈ n.ps) : p ∈ idsL l ∧ ixN l p < i := by
 obtain ⟨m, hm, rfl⟩ := List.mem_map.1 (ok_par h hi hp)
 obtain ⟨j, hj⟩ := List.mem_iff_getElem?.1 hm
 rw [List.getElem?_take] at hj
 split at hj
 ·
  exact ⟨mem_ids_at hj, by rw [ixN_at h hj]; assumption⟩
 ·
  cases hj
inductive Ab (l : List Nd) : Dig → Dig → Prop
 | refl (d : Dig) : Ab l d d
 | step {n : Nd} {p d : Dig} : n ∈ l → p ∈ n.ps → Ab l p d → Ab l n.id d
theorem Ab.trans {a b c : Dig} (h : Ab l a b) (k : Ab l b c) : Ab l a c := by
 induction h with
 | refl d => exact k
 | step hn hp _ ih => exact .step hn hp (ih k)
theorem Ab.inv {a d : Dig} (h : Ab l a d) : a = d ∨ ∃ n ∈ l, n.id = a ∧ ∃ p ∈ n.ps, Ab l p d := by
 cases h with
 | refl d => exact .inl rfl
 | step hn hp h => exact .inr ⟨_, hn, rfl, _, hp, h⟩
theorem nd_eq (h : (readE l).2 = 0) {n : Nd} {i : Nat} {m : Nd} (hn : n ∈ l) (hm : l[i]? = some m) (e : n.id = m.id) : n = m := by
 obtain ⟨j, hj⟩ := List.mem_iff_getElem?.1 hn
 have h1 := ixN_at h hj
 rw [e, ixN_at h hm] at h1
 subst h1
 rw [hm] at hj; cases hj; rfl
theorem Ab.inv_at (h : (readE l).2 = 0) {i : Nat} {n : Nd} (hi : l[i]? = some n) {d : Dig} (k : Ab l n.id d) : n.id = d ∨ ∃ p ∈ n.ps, Ab l p d := by
 rcases k.inv with e | ⟨m, hm, e, p, hp, hpd⟩
 ·
  exact .inl e
 ·
  rw [nd_eq h hm hi e] at hp
  exact .inr ⟨p, hp, hpd⟩
theorem Ab.mem (h : (readE l).2 = 0) {a d : Dig} (k : Ab l a d) : a ∈ idsL l → d ∈ idsL l := by
 induction k with
 | refl d => exact id
 | step hn hp _ ih =>
  intro _
  obtain ⟨j, hj⟩ := List.mem_iff_getElem?.1 hn
  exact ih (ix_par h hj hp).1
theorem Ab.ix (h : (readE l).2 = 0) {a d : Dig} (k : Ab l a d) : a ∈ idsL l → ixN l d ≤ ixN l a ∧ (ixN l d = ixN l a → a = d) := by
 induction k with
 | refl d => exact fun _ => ⟨Nat.le_refl _, fun _ => rfl⟩
 | step hn hp _ ih =>
  intro _
  obtain ⟨j, hj⟩ := List.mem_iff_getElem?.1 hn
  have h1 := ix_par h hj hp
  have h2 := ih h1.1
  rw [ixN_at h hj]
  exact ⟨by omega, fun e => by omega⟩
theorem bit_iff {S : List Bool} {d : Dig} : bitAt S l d = true ↔ S[ixN l d]? = some true := by
 unfold bitAt
 cases S[ixN l d]? with
 | none => simp
 | some b => simp
theorem setAll_get : ∀ {ds : List Dig} {S : List Bool} {i : Nat}, (setAll l S ds)[i]? = some true ↔ S[i]? = some true ∨ (i < S.length ∧ ∃ d ∈ ds, ixN l d = i)
 | [], S, i => by simp [setAll]
 | d :: ds, S, i => by
  have h := setAll_get (ds := ds) (S := S.set (ixN l d) true) (i := i)
  rw [show setAll l S (d :: ds) = setAll l (S.set (ixN l d) true) ds from rfl, h, List.length_set]
  by_cases e : ixN l d = i
  ·
   subst e
   by_cases hl : ixN l d < S.length
   ·
    simp [List.getElem?_set, hl]
   ·
    have : S[ixN l d]? = none := List.getElem?_eq_none (by omega)
    simp [List.getElem?_set, hl, this]
  ·
   simp [List.getElem?_set, e]
theorem setAll_bit {ds : List Dig} {S : List Bool} {d : Dig} (hl : S.length = l.length) (hd : d ∈ idsL l) (hds : ∀ p ∈ ds, p ∈ idsL l) : bitAt (setAll l S ds) l d = true ↔ bitAt S l d = true ∨ d ∈ ds := by
 rw [bit_iff, bit_iff, setAll_get, hl]
 have := ixN_lt hd
 constructor
 ·
  rintro (h | ⟨_, p, hp, e⟩)
  ·
   exact .inl h
  ·
   exact .inr (ixN_inj (hds p hp) hd e ▸ hp)
 ·
  rintro (h | h)
  ·
   exact .inl h
  ·
   exact .inr ⟨this, d, h, rfl⟩
theorem rep_bit {k : Nat} {d : Dig} : bitAt (List.replicate k false) l d = false := by
 unfold bitAt
 rw [List.getElem?_replicate]
 split <;> rfl
theorem mark0_bit {ids : List Dig} {d : Dig} (hd : d ∈ idsL l) (hin : ∀ p ∈ ids, p ∈ idsL l) : bitAt (mark0 l ids) l d = true ↔ d ∈ ids := by
 rw [mark0, setAll_bit (by simp) hd hin, rep_bit]
 simp
theorem upd_bit (h : (readE l).2 = 0) {S : List Bool} (hl : S.length = l.length) {k : Nat} {n : Nd} (hk : l[k]? = some n) {d : Dig} (hd : d ∈ idsL l) : bitAt (upd l S k) l d = true ↔ bitAt S l d = true ∨ (bitAt S l n.id = true ∧ d ∈ n.ps) := by
 by_cases hs : S[k]? = some true
 ·
  rw [upd_yes hk hs, setAll_bit hl hd (fun p hp => (ix_par h hk hp).1)]
  have : bitAt S l n.id = true := by rw [bit_iff, ixN_at h hk]; exact hs
  simp [this]
 ·
  rw [upd_no hs]
  have : ¬ bitAt S l n.id = true := by rw [bit_iff, ixN_at h hk]; exact hs
  simp [this]
theorem markD_bit (h : (readE l).2 = 0) : ∀ {k : Nat} {S : List Bool}, k ≤ l.length → S.length = l.length → ∀ {d : Dig}, d ∈ idsL l → (bitAt (markD l k S) l d = true ↔ bitAt S l d = true ∨ ∃ a ∈ idsL l, ixN l a < k ∧ bitAt S l a = true ∧ Ab l a d)
 | 0, S, _, _, d, _ => by simp [markD]
 | k + 1, S, hk, hl, d, hd => by
  obtain ⟨n, hn⟩ : ∃ n, l[k]? = some n := ⟨_, List.getElem?_eq_getElem (by omega)⟩
  have hni := mem_ids_at hn
  have hnx := ixN_at h hn
  rw [markD, markD_bit h (by omega) (by rw [upd_length]; exact hl) hd, upd_bit h hl hn hd]
  constructor
  ·
   rintro ((h1 | ⟨h1, h2⟩) | ⟨a, ha, hak, hab, had⟩)
   ·
    exact .inl h1
   ·
    exact .inr ⟨n.id, hni, by omega, h1, .step (List.mem_of_getElem? hn) h2 (.refl _)⟩
   ·
    rcases (upd_bit h hl hn ha).1 hab with h1 | ⟨h1, h2⟩
    ·
     exact .inr ⟨a, ha, by omega, h1, had⟩
    ·
     exact .inr ⟨n.id, hni, by omega, h1, .step (List.mem_of_getElem? hn) h2 had⟩
  ·
   rintro (h1 | ⟨a, ha, hak, hab, had⟩)
   ·
    exact .inl (.inl h1)
   ·
    by_cases hx : ixN l a < k
    ·
     exact .inr ⟨a, ha, hx, (upd_bit h hl hn ha).2 (.inl hab), had⟩
    ·
     have e : a = n.id := ixN_inj ha hni (by omega)
     subst e
     rcases had.inv_at h hn with e | ⟨p, hp, hpd⟩
     ·
      exact .inl (.inl (e ▸ hab))
     ·
      have hpi := ix_par h hn hp
      exact .inr ⟨p, hpi.1, hpi.2, (upd_bit h hl hn hpi.1).2 (.inr ⟨hab, hp⟩), hpd⟩
abbrev Under (l : List Nd) (ids : List Dig) (d : Dig) : Prop := ∃ a ∈ ids, Ab l a d
theorem markF_bit (h : (readE l).2 = 0) {ids : List Dig} (hin : ∀ p ∈ ids, p ∈ idsL l) {d : Dig} (hd : d ∈ idsL l) : bitAt (markF l ids) l d = true ↔ Under l ids d := by
 rw [markF, markD_bit h (Nat.le_refl _) mark0_length hd]
 constructor
 ·
  rintro (h1 | ⟨a, ha, _, hab, had⟩)
  ·
   exact ⟨d, (mark0_bit hd hin).1 h1, .refl _⟩
  ·
   exact ⟨a, (mark0_bit ha hin).1 hab, had⟩
 ·
  rintro ⟨a, ha, had⟩
  exact .inr ⟨a, hin a ha, ixN_lt (hin a ha), (mark0_bit (hin a ha) hin).2 ha, had⟩
theorem markD_length : ∀ {k : Nat} {S : List Bool}, (markD l k S).length = S.length
 | 0, _ => rfl
 | k + 1, S => by rw [markD, markD_length, upd_length]
theorem markF_length {ids : List Dig} : (markF l ids).length = l.length := by rw [markF, markD_length, mark0_length]
theorem upd_high (h : (readE l).2 = 0) {S : List Bool} {k i : Nat} (hi : k ≤ i) : ((upd l S k)[i]? = some true) ↔ (S[i]? = some true) := by
 unfold upd
 split
 ·
  rename_i n hn
  split
  ·
   rw [setAll_get]
   constructor
   ·
    rintro (h1 | ⟨_, p, hp, e⟩)
    ·
     exact h1
    ·
     have := (ix_par h hn hp).2; omega
   ·
    exact .inl
  ·
   rfl
 ·
  rfl
theorem markD_high (h : (readE l).2 = 0) : ∀ {k : Nat} {S : List Bool} {i : Nat}, k ≤ i → (((markD l k S)[i]? = some true) ↔ (S[i]? = some true))
 | 0, _, _, _ => Iff.rfl
 | k + 1, S, i, hi => by rw [markD, markD_high h (by omega), upd_high h (by omega)]
theorem reachD_iff (h : (readE l).2 = 0) : ∀ {k : Nat} {S : List Bool} {x : Nat}, x ∈ reachD l k S ↔ x < k ∧ (markD l k S)[x]? = some true
 | 0, S, x => by simp [reachD]
 | k + 1, S, x => by
  have ih := reachD_iff h (k := k) (S := upd l S k) (x := x)
  have hk : ((markD l k (upd l S k))[k]? = some true) ↔ (S[k]? = some true) := by rw [markD_high h (Nat.le_refl _), upd_high h (Nat.le_refl _)]
  rw [reachD, markD]
  split
  ·
   rename_i hs
   rw [List.mem_cons, ih]
   constructor
   ·
    rintro (rfl | ⟨h1, h2⟩)
    ·
     exact ⟨by omega, hk.2 hs⟩
    ·
     exact ⟨by omega, h2⟩
   ·
    rintro ⟨h1, h2⟩
    by_cases e : x = k
    ·
     exact .inl e
    ·
     exact .inr ⟨by omega, h2⟩
  ·
   rename_i hs
   rw [upd_no hs] at ih hk ⊢
   rw [ih]
   constructor
   ·
    rintro ⟨h1, h2⟩; exact ⟨by omega, h2⟩
   ·
    rintro ⟨h1, h2⟩
    refine ⟨?_, h2⟩
    by_cases e : x = k
    ·
     subst e; exact absurd (hk.1 h2) hs
    ·
     omega
theorem reachD_sorted : ∀ {k : Nat} {S : List Bool}, (reachD l k S).Pairwise fun a b => b < a
 | 0, _ => by simp [reachD]
 | k + 1, S => by
  rw [reachD]
  split
  ·
   exact List.pairwise_cons.2 ⟨fun x hx => reachD_lt hx, reachD_sorted⟩
  ·
   exact reachD_sorted
theorem idAt_at {i : Nat} {n : Nd} (h : l[i]? = some n) : idAt l i = n.id := by simp [idAt, h]
theorem idAt_ix {d : Dig} (h : d ∈ idsL l) : idAt l (ixN l d) = d := by
 obtain ⟨n, hn, e⟩ := at_ixN h
 rw [idAt_at hn, e]
theorem reach_nodup (h : (readE l).2 = 0) {ids : List Dig} : ((reachL l ids).map (idAt l)).Nodup := by
 unfold List.Nodup
 rw [List.pairwise_map]
 refine List.Pairwise.imp_of_mem ?_ (reachD_sorted (l := l) (k := l.length) (S := mark0 l ids))
 intro a b ha hb hlt e
 obtain ⟨n, hn⟩ : ∃ n, l[a]? = some n := ⟨_, List.getElem?_eq_getElem (reachD_lt ha)⟩
 obtain ⟨m, hm⟩ : ∃ m, l[b]? = some m := ⟨_, List.getElem?_eq_getElem (reachD_lt hb)⟩
 rw [idAt_at hn, idAt_at hm] at e
 have h1 := ixN_at h hn
 have h2 := ixN_at h hm
 rw [e] at h1
 omega
theorem above_up (h : (readE l).2 = 0) {ids : List Dig} : Up (aboveL l ids) := sortedD_up (reach_nodup h)
theorem above_mem (h : (readE l).2 = 0) {ids : List Dig} (hin : ∀ p ∈ ids, p ∈ idsL l) {d : Dig} : d ∈ aboveL l ids ↔ Under l ids d := by
 rw [aboveL, sortedD_mem, List.mem_map]
 constructor
 ·
  rintro ⟨i, hi, rfl⟩
  obtain ⟨h1, h2⟩ := (reachD_iff h).1 hi
  obtain ⟨n, hn⟩ : ∃ n, l[i]? = some n := ⟨_, List.getElem?_eq_getElem h1⟩
  rw [idAt_at hn]
  refine (markF_bit h hin (mem_ids_at hn)).1 ?_
  rw [bit_iff, ixN_at h hn]; exact h2
 ·
  rintro ⟨a, ha, had⟩
  have hd := had.mem h (hin a ha)
  refine ⟨ixN l d, (reachD_iff h).2 ⟨ixN_lt hd, ?_⟩, idAt_ix hd⟩
  exact bit_iff.1 ((markF_bit h hin hd).2 ⟨a, ha, had⟩)
theorem under_ids (h : (readE l).2 = 0) {ids : List Dig} (hin : ∀ p ∈ ids, p ∈ idsL l) {d : Dig} (hu : Under l ids d) : d ∈ idsL l := let ⟨a, ha, had⟩ := hu; had.mem h (hin a ha)
theorem headsD_mem (h : (readE l).2 = 0) {In : List Bool} : ∀ {k : Nat} {U : List Bool} {out : List Dig}, k ≤ l.length → U.length = l.length → ∀ {d : Dig}, (d ∈ headsD l In k U out ↔ d ∈ out ∨ (d ∈ idsL l ∧ ixN l d < k ∧ bitAt In l d = true ∧ ¬ bitAt U l d = true ∧ ∀ e ∈ idsL l, ixN l e < k → (bitAt In l e = true ∨ bitAt U l e = true) → Ab l e d → e = d))
 | 0, U, out, _, _, d => by simp [headsD]
 | k + 1, U, out, hk, hl, d => by
  obtain ⟨n, hn⟩ : ∃ n, l[k]? = some n := ⟨_, List.getElem?_eq_getElem (by omega)⟩
  have hni := mem_ids_at hn
  have hnx := ixN_at h hn
  have bI : In[k]? = some true ↔ bitAt In l n.id = true := by rw [bit_iff, hnx]
  have bU : U[k]? = some true ↔ bitAt U l n.id = true := by rw [bit_iff, hnx]
  have hU : ∀ {x : Dig}, x ∈ idsL l → (bitAt (if In[k]? = some true ∨ U[k]? = some true then setAll l U n.ps else U) l x = true ↔ bitAt U l x = true ∨ ((bitAt In l n.id = true ∨ bitAt U l n.id = true) ∧ x ∈ n.ps)) := by
   intro x hx
   by_cases hc : In[k]? = some true ∨ U[k]? = some true
   ·
    have hc' : bitAt In l n.id = true ∨ bitAt U l n.id = true := hc.imp bI.1 bU.1
    rw [if_pos hc, setAll_bit hl hx (fun p hp => (ix_par h hn hp).1)]
    exact ⟨fun x => x.imp id fun y => ⟨hc', y⟩, fun x => x.imp id fun y => y.2⟩
   ·
    have hc' : ¬ (bitAt In l n.id = true ∨ bitAt U l n.id = true) := fun x => hc (x.imp bI.2 bU.2)
    rw [if_neg hc]
    exact ⟨.inl, fun x => x.elim id fun y => absurd y.1 hc'⟩
  rw [headsD_at hn, headsD_mem h (by omega) (by split <;> simp [setAll_length, hl])]
  have hO : ∀ {x : Dig}, (x ∈ (if In[k]? = some true ∧ ¬ U[k]? = some true then out ++ [n.id] else out)) ↔ x ∈ out ∨ (x = n.id ∧ bitAt In l n.id = true ∧ ¬ bitAt U l n.id = true) := by
   intro x
   by_cases hc : In[k]? = some true ∧ ¬ U[k]? = some true
   ·
    rw [if_pos hc, List.mem_append, List.mem_singleton]
    exact ⟨fun y => y.imp id fun z => ⟨z, bI.1 hc.1, fun q => hc.2 (bU.2 q)⟩, fun y => y.imp id fun z => z.1⟩
   ·
    rw [if_neg hc]
    exact ⟨.inl, fun y => y.elim id fun z => absurd ⟨bI.2 z.2.1, fun q => z.2.2 (bU.1 q)⟩ hc⟩
  rw [hO]
  constructor
  ·
   rintro ((h1 | ⟨rfl, h2, h3⟩) | ⟨hd, hdk, hdI, hdU, hall⟩)
   ·
    exact .inl h1
   ·
    refine .inr ⟨hni, by omega, h2, h3, fun e he hek _ hab => ?_⟩
    have := hab.ix h he
    exact this.2 (by omega)
   ·
    have hdU' : ¬ (bitAt U l d = true ∨ ((bitAt In l n.id = true ∨ bitAt U l n.id = true) ∧ d ∈ n.ps)) := fun x => hdU ((hU hd).2 x)
    refine .inr ⟨hd, by omega, hdI, fun x => hdU' (.inl x), fun e he hek hc hab => ?_⟩
    by_cases hx : ixN l e < k
    ·
     refine hall e he hx ?_ hab
     rcases hc with hc | hc
     ·
      exact .inl hc
     ·
      exact .inr ((hU he).2 (.inl hc))
    ·
     have e1 : e = n.id := ixN_inj he hni (by omega)
     subst e1
     rcases hab.inv_at h hn with e2 | ⟨p, hp, hpd⟩
     ·
      exact e2
     ·
      exfalso
      have hpi := ix_par h hn hp
      have e3 := hall p hpi.1 hpi.2 (.inr ((hU hpi.1).2 (.inr ⟨hc, hp⟩))) hpd
      subst e3
      exact hdU' (.inr ⟨hc, hp⟩)
  ·
   rintro (h1 | ⟨hd, hdk, hdI, hdU, hall⟩)
   ·
    exact .inl (.inl h1)
   ·
    by_cases hx : ixN l d < k
    ·
     have hne : ¬ d = n.id := fun e => by rw [e, hnx] at hx; omega
     refine .inr ⟨hd, hx, hdI, fun hb => ?_, fun e he hek hc hab => ?_⟩
     ·
      rcases (hU hd).1 hb with hb | ⟨hc, hp⟩
      ·
       exact hdU hb
      ·
       exact hne (hall n.id hni (by omega) hc (.step (List.mem_of_getElem? hn) hp (.refl _))).symm
     ·
      rcases hc with hc | hc
      ·
       exact hall e he (by omega) (.inl hc) hab
      ·
       rcases (hU he).1 hc with hc | ⟨hc, hp⟩
       ·
        exact hall e he (by omega) (.inr hc) hab
       ·
        exact absurd (hall n.id hni (by omega) hc (.step (List.mem_of_getElem? hn) hp hab)).symm hne
    ·
     have e1 : d = n.id := ixN_inj hd hni (by omega)
     subst e1
     exact .inl (.inr ⟨rfl, hdI, hdU⟩)
theorem headsD_nodup (h : (readE l).2 = 0) {In : List Bool} : ∀ {k : Nat} {U : List Bool} {out : List Dig}, k ≤ l.length → out.Nodup → (∀ x ∈ out, k ≤ ixN l x) → (headsD l In k U out).Nodup
 | 0, U, out, _, hn, _ => by rw [headsD]; exact hn
 | k + 1, U, out, hk, ho, hx => by
  obtain ⟨n, hn⟩ : ∃ n, l[k]? = some n := ⟨_, List.getElem?_eq_getElem (by omega)⟩
  have hnx := ixN_at h hn
  rw [headsD_at hn]
  refine headsD_nodup h (by omega) ?_ ?_
  ·
   split
   ·
    refine List.nodup_append.2 ⟨ho, by simp, fun a ha b hb => ?_⟩
    simp at hb; subst hb
    intro e; subst e
    have := hx _ ha; omega
   ·
    exact ho
  ·
   intro x hxm
   split at hxm
   ·
    rcases List.mem_append.1 hxm with h1 | h1
    ·
     have := hx x h1; omega
    ·
     simp at h1; subst h1; omega
   ·
    have := hx x hxm; omega
theorem heads_up (h : (readE l).2 = 0) {In : List Bool} : Up (headsL l In) := sortedD_up (headsD_nodup h (Nat.le_refl _) List.nodup_nil (fun x hx => by cases hx))
theorem heads_mem (h : (readE l).2 = 0) {In : List Bool} {d : Dig} : d ∈ headsL l In ↔ d ∈ idsL l ∧ bitAt In l d = true ∧ ∀ e ∈ idsL l, bitAt In l e = true → Ab l e d → e = d := by
 rw [headsL, sortedD_mem, headsD_mem h (Nat.le_refl _) (by simp)]
 simp only [rep_bit, List.not_mem_nil, false_or, or_false, Bool.false_eq_true, not_false_eq_true, true_and]
 constructor
 ·
  rintro ⟨h1, _, h2, h3⟩
  exact ⟨h1, h2, fun e he hb hab => h3 e he (ixN_lt he) hb hab⟩
 ·
  rintro ⟨h1, h2, h3⟩
  exact ⟨h1, ixN_lt h1, h2, fun e he _ hb hab => h3 e he hb hab⟩
structure IsHead (l : List Nd) (X : Dig → Prop) (d : Dig) : Prop where
 mem : X d
 max : ∀ e, X e → Ab l e d → e = d
theorem heads_is (h : (readE l).2 = 0) {In : List Bool} {X : Dig → Prop} (hX : ∀ d, X d → d ∈ idsL l) (hb : ∀ d ∈ idsL l, bitAt In l d = true ↔ X d) {d : Dig} : d ∈ headsL l In ↔ IsHead l X d := by
 rw [heads_mem h]
 constructor
 ·
  rintro ⟨h1, h2, h3⟩
  exact ⟨(hb d h1).1 h2, fun e he hab => h3 e (hX e he) ((hb e (hX e he)).2 he) hab⟩
 ·
  rintro ⟨h1, h2⟩
  have hd := hX d h1
  exact ⟨hd, (hb d hd).2 h1, fun e he hbe hab => h2 e ((hb e he).1 hbe) hab⟩
end Go.Pl
/- The plain law of graphs: the order of marked nodes. No condition; no program. -/
namespace Go.Pl
open Go.Fw
variable {l : List Nd}
theorem nodup_le : ∀ {a b : List Dig}, a.Nodup → (∀ x ∈ a, x ∈ b) → a.length ≤ b.length
 | [], _, _, _ => Nat.zero_le _
 | x :: a, b, h, hs => by
  have h' := List.nodup_cons.1 h
  have hx := hs x (by simp)
  have ih := nodup_le (a := a) (b := b.erase x) h'.2 (fun y hy => (List.mem_erase_of_ne (fun (e : y = x) => h'.1 (by rw [← e]; exact hy))).2 (hs y (by simp [hy])))
  rw [List.length_erase_of_mem hx] at ih
  have := List.length_pos_of_mem hx
  simp only [List.length_cons]
  omega
def parD (l : List Nd) (d : Dig) : List Dig := ((l[ixN l d]?).map Nd.ps).getD []
theorem parD_at (h : (readE l).2 = 0) {i : Nat} {n : Nd} (hn : l[i]? = some n) : parD l n.id = n.ps := by
 rw [parD, ixN_at h hn, hn]; rfl
theorem parD_mem (h : (readE l).2 = 0) {n : Nd} (hn : n ∈ l) : parD l n.id = n.ps := by
 obtain ⟨j, hj⟩ := List.mem_iff_getElem?.1 hn
 exact parD_at h hj
def mayQ (l : List Nd) (out : List Dig) (d : Dig) : Bool := !decide (d ∈ out) && (parD l d).all fun p => decide (p ∈ out)
theorem mayQ_iff {out : List Dig} {d : Dig} : mayQ l out d = true ↔ d ∉ out ∧ ∀ p ∈ parD l d, p ∈ out := by
 simp [mayQ]
def nextQ (l : List Nd) (all out : List Dig) : Option Dig := all.find? (mayQ l out)
structure Came (l : List Nd) (all out : List Dig) : Prop where
 once : out.Nodup
 isin : ∀ d ∈ out, d ∈ all
 par : ∀ i d, out[i]? = some d → ∀ p ∈ parD l d, p ∈ out.take i
theorem Came.nil {all : List Dig} : Came l all [] := ⟨List.nodup_nil, (fun d h => by cases h), fun i d h => by simp at h⟩
theorem nextQ_some {all out : List Dig} {d : Dig} (h : nextQ l all out = some d) : d ∈ all ∧ d ∉ out ∧ ∀ p ∈ parD l d, p ∈ out :=
 ⟨List.mem_of_find?_eq_some h, mayQ_iff.1 (List.find?_some h)⟩
theorem Came.more {all out : List Dig} {d : Dig} (h : Came l all out) (hd : nextQ l all out = some d) : Came l all (out ++ [d]) := by
 obtain ⟨h1, h2, h3⟩ := nextQ_some hd
 refine ⟨List.nodup_append.2 ⟨h.once, by simp, fun a ha b hb e => ?_⟩, fun x hx => ?_, fun i x hx p hp => ?_⟩
 ·
  simp at hb; subst hb; subst e; exact h2 ha
 ·
  rcases List.mem_append.1 hx with hx | hx
  ·
   exact h.isin x hx
  ·
   simp at hx; subst hx; exact h1
 ·
  by_cases hi : i < out.length
  ·
   rw [List.getElem?_append_left hi] at hx
   rw [List.take_append_of_le_length (by omega)]
   exact h.par i x hx p hp
  ·
   have hi2 : i = out.length := by
    have := (List.getElem?_eq_some_iff.1 hx).1
    simp at this; omega
   subst hi2
   rw [List.getElem?_append_right (Nat.le_refl _)] at hx
   simp at hx; subst hx
   rw [List.take_append_of_le_length (Nat.le_refl _), List.take_length]
   exact h3 p hp
theorem Came.le {all out : List Dig} (h : Came l all out) : out.length ≤ all.length := nodup_le h.once h.isin
end Go.Pl
/- slices.DeleteFunc at digests of our own; graph.Order, Lacks, walked. No condition. -/
namespace Go.Fw
open Go.RowKit
theorem Own.cut {w : World} {e : TypeId} {k : Nat} {A : Option Addr} {n c i : Nat} {pre post : List Value} (h : Own w e k (.slice A n c) (pre ++ post)) (hl : pre.length = i * k) (hi : i ≤ n) : Own w e k (.slice A i c) pre := by
 rcases h with ⟨h, hx⟩ | ⟨g, n', c', rest, fz, h, hh, hxl, hnc, hcm, hal, hfz⟩
 ·
  cases h
  obtain ⟨rfl, rfl⟩ := List.append_eq_nil_iff.1 hx
  exact .inl ⟨by rw [show i = 0 by omega], rfl⟩
 ·
  cases h
  exact .inr ⟨g, i, c, post ++ rest, fz, rfl, by rw [← List.append_assoc]; exact hh, hl, by omega, hcm, by rw [← List.append_assoc]; exact hal, hfz⟩
section
variable {P : Program} {n : NN} {fr : Fr} {w : World} {ty : TypeId} {e : TypeId}
theorem St.alloc1 {t : TypeId} {z : Value} (hI : (P.info? t).map (fun i => i.zero) = some (some z)) (hz : z.cells = #[z]) : St P n fr (.alloc t) ty w (fun v w' => ∃ g, v = .pointer (some ⟨g, 0, none⟩) ∧ w.heap.size ≤ g ∧ Blk w' g t [z] ∧ Ext w w') := fun a o' ho hty ha => by
 obtain ⟨i, hi, hp⟩ := Option.map_eq_some_iff.1 hI
 refine ⟨_, w.alloc (.cells [z].toArray t), ?_, w.heap.size, rfl, Nat.le_refl _, Blk.new w t [z], Chg.alloc _⟩
 simp [execOp, ho, Instr.alloc, zeroValue, typeInfo, hi, hp, newVar, newRow, hz]
end
end Go.Fw
namespace Go.Pl
open Go.Fw
abbrev keptD (p : Dig → Bool) (l : List Dig) : List Dig := l.filter fun d => !p d
structure Mid (p : Dig → Bool) (l cur : List Dig) (i j : Nat) : Prop where
 len : cur.length = l.length
 lt : i < j
 le : j ≤ l.length
 front : cur.take i = keptD p (l.take j)
 back : cur.drop j = l.drop j
theorem Mid.at {p : Dig → Bool} {l cur : List Dig} {i j : Nat} (h : Mid p l cur i j) {d : Dig} (hd : l[j]? = some d) : cur[j]? = some d := by
 have h1 : (cur.drop j)[0]? = (l.drop j)[0]? := by rw [h.back]
 rw [List.getElem?_drop, List.getElem?_drop, Nat.add_zero] at h1
 rw [h1, hd]
end Go.Pl
namespace Go.Proofs.YtjbeooimhoilmaaGreatDoor
open Go.RowKit Go.Fw Go.Pl Go.Sort
end Go.Proofs.YtjbeooimhoilmaaGreatDoor
/- graph.Order, Lacks, walked. No condition. -/
namespace Go.Pl
open Go.Fw
end Go.Pl
namespace Go.Proofs.YtjbeooimhoilmaaGreatDoor
open Go.RowKit Go.Fw Go.Pl Go.Sort
end Go.Proofs.YtjbeooimhoilmaaGreatDoor
