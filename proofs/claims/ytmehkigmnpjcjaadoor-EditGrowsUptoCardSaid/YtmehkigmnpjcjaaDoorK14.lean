/- Parts of a proof: what its last text leans on. No condition. -/
import Derived.Test.YtmehkigmnpjcjaaDoorK04
import Derived.Test.YtmehkigmnpjcjaaDoorK06
import Derived.Test.YtmehkigmnpjcjaaDoorK10
import Derived.Test.YtmehkigmnpjcjaaDoorK11
import Derived.Test.YtmehkigmnpjcjaaDoorK13
set_option linter.unusedSimpArgs false
set_option linter.unusedVariables false
/- The plain law of histories: which commits may follow one another, and what a version's tree is. No condition; no program. -/
namespace Go.Proofs.YtmehkigmnpjcjaaDoor
open Go.Fw Go.Pl Go.Fu
def ndH (c : ComD) : Nd := ⟨idD c, c.parents⟩
abbrev ndsH (P : List ComD) : List Nd := P.map ndH
abbrev idsH (P : List ComD) : List Dig := P.map idD
theorem ids_nds (P : List ComD) : idsL (ndsH P) = idsH P := by simp [idsL, ndH, Function.comp_def]
theorem nds_at {P : List ComD} {i : Nat} {c : ComD} (h : P[i]? = some c) : (ndsH P)[i]? = some (ndH c) := by simp [h]
theorem nds_inv {P : List ComD} {i : Nat} {n : Nd} (h : (ndsH P)[i]? = some n) : ∃ c, P[i]? = some c ∧ ndH c = n := by simpa using h
theorem nds_take (P : List ComD) (i : Nat) : (ndsH P).take i = ndsH (P.take i) := List.map_take.symm
def opsHi (P : List ComD) (d : Dig) : List OpD := ((P[ixN (ndsH P) d]?).map ComD.ops).getD []
def fndB (P : List ComD) (ids : List Dig) (r : RefD) : Bool :=
 decide (r.c ∈ idsH P) && bitAt (markF (ndsH P) ids) (ndsH P) r.c && decide (r.n ≤ ((opsHi P r.c).length : Int)) && decide (kindAt (opsHi P r.c) (r.n - 1).toNat = 1)
def hErr (P : List ComD) (c : ComD) : Int := if mayI c ≠ 0 then mayI c else if idD c ∈ idsH P then 6 else if ∃ p ∈ c.parents, p ∉ idsH P then 5 else if ∃ x ∈ c.ops, refKind x.at_ = 2 ∧ fndB P c.parents x.at_ = false then 5 else 0
def hread : List ComD → List ComD → Nat × Int
 | [], _ => (0, 0)
 | c :: r, P => if hErr P c = 0 then hread r (P ++ [c]) else (P.length, hErr P c)
def rdH (l : List ComD) : Nat × Int := if 200 < l.length then (0, 4) else hread l []
structure HErrOk (P : List ComD) (c : ComD) : Prop where
 may : mayI c = 0
 new : idD c ∉ idsH P
 par : ∀ p ∈ c.parents, p ∈ idsH P
 far : ∀ x ∈ c.ops, refKind x.at_ = 2 → fndB P c.parents x.at_ = true
theorem hErr_ok {P : List ComD} {c : ComD} : hErr P c = 0 ↔ HErrOk P c := by
 unfold hErr
 constructor
 ·
  intro h
  split at h
  ·
   rename_i h1; exact absurd h h1
  split at h
  ·
   omega
  split at h
  ·
   omega
  split at h
  ·
   omega
  rename_i h1 h2 h3 h4
  refine ⟨Decidable.not_not.1 h1, h2, fun p hp => ?_, fun x hx hk => ?_⟩
  ·
   by_cases hm : p ∈ idsH P
   ·
    exact hm
   ·
    exact absurd ⟨p, hp, hm⟩ h3
  ·
   cases hf : fndB P c.parents x.at_ with
   | true => rfl
   | false => exact absurd ⟨x, hx, hk, hf⟩ h4
 ·
  rintro ⟨h1, h2, h3, h4⟩
  rw [if_neg om_, if_neg h2, if_neg (by rintro ⟨p, hp, hn⟩; exact hn (h3 p hp)), if_neg (by rintro ⟨x, hx, hk, hf⟩; rw [h4 x hx hk] at hf; cases hf)]
def HOk (P : List ComD) : Prop := ∀ (i : Nat) (c : ComD), P[i]? = some c → HErrOk (P.take i) c
theorem HOk.nil : HOk [] := fun i c h => by simp at h
theorem HOk.snoc {P : List ComD} {c : ComD} (h : HOk P) (hc : HErrOk P c) : HOk (P ++ [c]) := fun i x hx => by
 by_cases hi : i < P.length
 ·
  rw [List.getElem?_append_left hi] at hx
  rw [List.take_append_of_le_length om_]
  exact h i x hx
 ·
  have hi2 : i = P.length := by
   have := (List.getElem?_eq_some_iff.1 hx).1
   simp at this; omega
  subst hi2
  rw [List.getElem?_append_right (Nat.le_refl _)] at hx
  simp at hx; subst hx
  rw [List.take_append_of_le_length (Nat.le_refl _), List.take_length]
  exact hc
theorem HOk.take {P : List ComD} (h : HOk P) (k : Nat) : HOk (P.take k) := fun i c hc => by
 rw [List.getElem?_take] at hc
 split at hc
 ·
  rename_i hi
  rw [List.take_take, Nat.min_eq_left om_]
  exact h i c hc
 ·
  cases hc
theorem hread_go : ∀ {r P : List ComD}, HOk P → (((hread r P).2 = 0) ↔ HOk (P ++ r))
 | [], P, h => by simp [hread, h]
 | c :: r, P, h => by
  rw [hread]
  split
  ·
   rename_i h0
   rw [hread_go (h.snoc (hErr_ok.1 h0)), List.append_assoc]; rfl
  ·
   rename_i h0
   refine ⟨fun hh => absurd hh h0, fun hh => ?_⟩
   have h1 := hh P.length c (by rw [List.getElem?_append_right (Nat.le_refl _)]; simp)
   rw [List.take_append_of_le_length (Nat.le_refl _), List.take_length] at h1
   exact absurd (hErr_ok.2 h1) h0
theorem rdH_ok {l : List ComD} : (rdH l).2 = 0 ↔ l.length ≤ 200 ∧ HOk l := by
 unfold rdH
 split
 ·
  exact ⟨fun h => by simp at h, fun h => by omega⟩
 ·
  rw [hread_go HOk.nil]; simp; omega
theorem hread_step {l : List ComD} {x : Nat} {c : ComD} (hc : l[x]? = some c) (h : hErr (l.take x) c = 0) : hread (l.drop x) (l.take x) = hread (l.drop (x + 1)) (l.take (x + 1)) := by
 have h1 : l.drop x = c :: l.drop (x + 1) := by
  obtain ⟨hl, rfl⟩ := List.getElem?_eq_some_iff.1 hc
  exact List.drop_eq_getElem_cons hl
 rw [h1, hread, if_pos h, List.take_add_one, hc]; rfl
theorem hread_stop {l : List ComD} {x : Nat} {c : ComD} (hc : l[x]? = some c) (h : hErr (l.take x) c ≠ 0) : hread (l.drop x) (l.take x) = (x, hErr (l.take x) c) := by
 obtain ⟨hl, rfl⟩ := List.getElem?_eq_some_iff.1 hc
 rw [List.drop_eq_getElem_cons hl, hread, if_neg h, List.length_take, Nat.min_eq_left om_]
theorem ris_of : ∀ {l : List Dig}, risingB l = true → risB l = true := fun {l} h => risB_at fun i a b ha hb => (rising_iff l).1 h i a b ha hb
theorem HOk.nodes {P : List ComD} (h : HOk P) (hl : P.length ≤ 200) : (readE (ndsH P)).2 = 0 := readE_all (by rw [List.length_map]; omega) fun j n hn => by
 obtain ⟨c, hc, rfl⟩ := nds_inv hn
 have hh := h j c hc
 have hm := mayI_ok hh.may
 rw [nds_take, ids_nds]
 exact wrongE_zero hm.parents (ris_of hm.rising) hh.new hh.par
theorem HOk.nodup {P : List ComD} (h : HOk P) : (idsH P).Nodup := by
 rw [List.Nodup, List.pairwise_iff_getElem]
 intro i j hi hj hij e
 rw [List.length_map] at hi hj
 have h1 := (h j _ (List.getElem?_eq_getElem hj)).new
 rw [List.getElem_map, List.getElem_map] at e
 exact h1 (List.mem_map.2 ⟨P[i], List.mem_of_getElem? (i := i) (by rw [List.getElem?_take, if_pos hij]; exact List.getElem?_eq_getElem hi), e⟩)
theorem ab_mono {l m : List Nd} (h : ∀ n ∈ l, n ∈ m) {a d : Dig} (k : Ab l a d) : Ab m a d := by
 induction k with
 | refl d => exact .refl d
 | step hn hp _ ih => exact .step (h _ hn) hp ih
theorem under_mono {l m : List Nd} (h : ∀ n ∈ l, n ∈ m) {ids : List Dig} {d : Dig} (k : Under l ids d) : Under m ids d := let ⟨a, ha, k⟩ := k; ⟨a, ha, ab_mono h k⟩
section
variable {l : List ComD} (hk : HOk l) (hl : l.length ≤ 200)
include hk hl
theorem com_eq {i : Nat} {a c : ComD} (ha : a ∈ l) (hc : l[i]? = some c) (e : idD a = idD c) : a = c := by
 obtain ⟨j, hj⟩ := List.mem_iff_getElem?.1 ha
 have h1 := ixN_at (hk.nodes hl) (nds_at hj)
 have h2 := ixN_at (hk.nodes hl) (nds_at hc)
 simp only [ndH] at h1 h2
 rw [e, h2] at h1
 subst h1
 rw [hj] at hc; injection hc
theorem opsAt_of {a : ComD} (ha : a ∈ l) : opsHi l (idD a) = a.ops := by
 obtain ⟨j, hj⟩ := List.mem_iff_getElem?.1 ha
 have h1 := ixN_at (hk.nodes hl) (nds_at hj)
 simp only [ndH] at h1
 rw [opsHi, h1, hj]; rfl
omit hl in
theorem fnd_iff (hl : l.length ≤ 200) {ids : List Dig} (hin : ∀ d ∈ ids, d ∈ idsH l) {r : RefD} : fndB l ids r = true ↔ ∃ a ∈ l, idD a = r.c ∧ Under (ndsH l) ids r.c ∧ r.n ≤ (a.ops.length : Int) ∧ kindAt a.ops (r.n - 1).toNat = 1 := by
 have hn := hk.nodes hl
 have hin' : ∀ d ∈ ids, d ∈ idsL (ndsH l) := fun d hd => by rw [ids_nds]; exact hin d hd
 simp only [fndB, Bool.and_eq_true, decide_eq_true_eq]
 constructor
 ·
  rintro ⟨⟨⟨h1, h2⟩, h3⟩, h4⟩
  obtain ⟨a, ha, e⟩ := List.mem_map.1 h1
  rw [← e, opsAt_of hk hl ha] at h3 h4
  exact ⟨a, ha, e, (markF_bit hn hin' (by rw [ids_nds]; exact h1)).1 h2, h3, h4⟩
 ·
  rintro ⟨a, ha, e, hu, h3, h4⟩
  have h1 : r.c ∈ idsH l := e ▸ List.mem_map.2 ⟨a, ha, rfl⟩
  rw [← e, opsAt_of hk hl ha]
  rw [e]
  exact ⟨⟨⟨h1, (markF_bit hn hin' (by rw [ids_nds]; exact h1)).2 hu⟩, h3⟩, h4⟩
end
abbrev pr (c : ComD) : Dig × List OpD := (idD c, c.ops)
theorem insN_le (ops : List OpD) : insN ops ≤ ops.length := List.countP_le_length
theorem sum_le {L : Coms} {m : Nat} (h : ∀ p ∈ L, insN p.2 ≤ m) : (L.map fun p => insN p.2).sum ≤ L.length * m := by
 induction L with
 | nil => simp
 | cons p r ih =>
  have h1 := h p (by simp)
  have h2 := ih fun q hq => h q (by simp [hq])
  simp only [List.map_cons, List.sum_cons, List.length_cons, Nat.succ_mul]
  omega
theorem far_kind {r : RefD} (h : refKind r = 2) {ops : List OpD} (hl : r.n ≤ (ops.length : Int)) (hk : kindAt ops (r.n - 1).toNat = 1) {L : Coms} {d : Dig} (hd : d = r.c) (hm : (d, ops) ∈ L) : ∃ b p s, InsOf L r b p s := by
 obtain ⟨ho, h1, _, _⟩ := refKind_two h
 obtain ⟨x, hx⟩ : ∃ x, ops[(r.n - 1).toNat]? = some x := ⟨_, List.getElem?_eq_getElem om_⟩
 refine ⟨x.byte, res d x.at_, x.left, d, ops, (r.n - 1).toNat, x, hm, hx, ?_, ?_, rfl, rfl, rfl⟩
 ·
  rw [kindAt, hx] at hk; exact hk
 ·
  obtain ⟨o, c, n⟩ := r
  simp only at ho h1 hd
  subst ho hd
  congr 1
  simp only; omega
theorem may_add {l : List ComD} (hk : HOk l) (hl : l.length ≤ 200) {L : Coms} {T : Tr} (ht : TreeOk L T) (hsub : ∀ p ∈ L, ∃ c ∈ l, p = pr c) {i : Nat} {c : ComD} (hc : l[i]? = some c) (hnew : idD c ∉ L.map (·.1))
  (hanc : ∀ a ∈ l, Under (ndsH l) c.parents (idD a) → pr a ∈ L) : wrongC T (idD c) c.ops = 0 := by
 have hh := hk i c hc
 have hm := mayI_ok hh.may
 have hcm := List.mem_of_getElem? hc
 have h2000 : ∀ a ∈ l, insN a.ops ≤ 2000 := fun a ha => by
  obtain ⟨j, hj⟩ := List.mem_iff_getElem?.1 ha
  have := (mayI_ok (hk j a hj).may).ops
  have := insN_le a.ops
  omega
 have hlen : L.length + 1 ≤ l.length := by
  have h1 : (L.map (·.1) ++ [idD c]).Nodup := List.nodup_append.2 ⟨ht.nodup, by simp, fun a ha b hb e => by simp at hb; subst hb; subst e; exact hnew ha⟩
  have h2 := nodup_le (b := idsH l) h1 fun d hd => by
   rcases List.mem_append.1 hd with hd | hd
   ·
    obtain ⟨p, hp, rfl⟩ := List.mem_map.1 hd
    obtain ⟨a, ha, rfl⟩ := hsub p hp
    exact List.mem_map.2 ⟨a, ha, rfl⟩
   ·
    simp at hd; subst hd; exact List.mem_map.2 ⟨c, hcm, rfl⟩
  simpa using h2
 have hsum : (L.map fun p => insN p.2).sum ≤ L.length * 2000 := sum_le fun p hp => by
  obtain ⟨a, ha, rfl⟩ := hsub p hp
  exact h2000 a ha
 have hle := ht.length
 have hpos := ht.good.pos
 have hci := h2000 c hcm
 have hN : wrongN T.e c.ops c.ops.length = 0 := by
  by_cases h0 : wrongN T.e c.ops c.ops.length = 0
  ·
   exact h0
  exfalso
  obtain ⟨j, x, hj, hx, hw⟩ := wrongN_first h0
  apply hw
  rw [wrongAt, if_neg (by rw [hm.right j hj]; decide), if_neg]
  rintro ⟨hr, hnone⟩
  have hf := hh.far x (List.mem_of_getElem? hx) hr
  have hpar : ∀ d ∈ c.parents, d ∈ idsH (l.take i) := hh.par
  obtain ⟨a, ha, e, hu, h3, h4⟩ := (fnd_iff (hk.take i) (by rw [List.length_take]; omega) hpar).1 hf
  have hal := List.mem_of_mem_take ha
  have hu' : Under (ndsH l) c.parents (idD a) := by
   rw [e]
   exact under_mono (l := ndsH (l.take i)) (fun n hn => by
    obtain ⟨z, hz, rfl⟩ := List.mem_map.1 hn
    exact List.mem_map.2 ⟨z, List.mem_of_mem_take hz, rfl⟩) hu
  have hpa := hanc a hal hu'
  obtain ⟨b, p, s, hi⟩ := far_kind hr h3 h4 e hpa
  obtain ⟨y, hy, hyn⟩ := (ht.built.names x.at_).2 (.inr ⟨b, p, s, hi⟩)
  exact atE_none.1 hnone y hy hyn
 rw [wrongC, if_neg (by rw [ht.ads]; exact hnew), if_neg (by have := hm.ops; omega), hN]
section
open Classical
noncomputable def selS (S : Dig → Prop) (l : List ComD) : Coms := (l.filter fun c => decide (S (idD c))).map pr
theorem sel_mem {S : Dig → Prop} {l : List ComD} {p : Dig × List OpD} : p ∈ selS S l ↔ ∃ c ∈ l, S (idD c) ∧ p = pr c := by
 simp only [selS, List.mem_map, List.mem_filter, decide_eq_true_eq]
 constructor
 ·
  rintro ⟨c, ⟨h1, h2⟩, rfl⟩; exact ⟨c, h1, h2, rfl⟩
 ·
  rintro ⟨c, h1, h2, rfl⟩; exact ⟨c, ⟨h1, h2⟩, rfl⟩
theorem sel_yes {S : Dig → Prop} {l : List ComD} {k : Nat} {c : ComD} (hc : l[k]? = some c) (h : S (idD c)) : selS S (l.take (k + 1)) = selS S (l.take k) ++ [pr c] := by
 rw [selS, selS, List.take_add_one, hc]; simp [h]
theorem sel_no {S : Dig → Prop} {l : List ComD} {k : Nat} {c : ComD} (hc : l[k]? = some c) (h : ¬ S (idD c)) : selS S (l.take (k + 1)) = selS S (l.take k) := by
 rw [selS, selS, List.take_add_one, hc]; simp [h]
end
def Closed (l : List ComD) (S : Dig → Prop) : Prop := ∀ c ∈ l, S (idD c) → ∀ p ∈ c.parents, S p
theorem Closed.ab {l : List ComD} {S : Dig → Prop} (h : Closed l S) {a d : Dig} (k : Ab (ndsH l) a d) : S a → S d := by
 induction k with
 | refl d => exact id
 | step hn hp _ ih =>
  obtain ⟨c, hc, rfl⟩ := List.mem_map.1 hn
  exact fun ha => ih (h c hc ha _ hp)
theorem closed_under (l : List ComD) (ids : List Dig) : Closed l (Under (ndsH l) ids) := fun c hc ⟨a, ha, h⟩ p hp => ⟨a, ha, h.trans (.step (List.mem_map.2 ⟨c, hc, rfl⟩) hp (.refl _))⟩
theorem anc_ahead {l : List ComD} (hk : HOk l) (hl : l.length ≤ 200) {i : Nat} {c a : ComD} (hc : l[i]? = some c) (ha : a ∈ l) (h : Under (ndsH l) c.parents (idD a)) : a ∈ l.take i := by
 obtain ⟨p, hp, hpa⟩ := h
 have hn := hk.nodes hl
 have h1 := ix_par hn (nds_at hc) hp
 have h2 := hpa.ix hn h1.1
 obtain ⟨j, hj⟩ := List.mem_iff_getElem?.1 ha
 have h3 := ixN_at hn (nds_at hj)
 simp only [ndH] at h3
 exact List.mem_of_getElem? (i := j) (by rw [List.getElem?_take, if_pos om_]; exact hj)
theorem sel_may {l : List ComD} (hk : HOk l) (hl : l.length ≤ 200) {S : Dig → Prop} (hS : Closed l S) {k : Nat} {c : ComD} (hc : l[k]? = some c) (h : S (idD c)) {T : Tr} (ht : TreeOk (selS S (l.take k)) T) : wrongC T (idD c) c.ops = 0 := by
 refine may_add hk hl ht (fun p hp => ?_) hc (fun hm => ?_) fun a ha hu => ?_
 ·
  obtain ⟨a, ha, _, rfl⟩ := sel_mem.1 hp
  exact ⟨a, List.mem_of_mem_take ha, rfl⟩
 ·
  obtain ⟨p, hp, e⟩ := List.mem_map.1 hm
  obtain ⟨a, ha, _, rfl⟩ := sel_mem.1 hp
  exact (hk k c hc).new (List.mem_map.2 ⟨a, ha, e⟩)
 ·
  refine sel_mem.2 ⟨a, anc_ahead hk hl hc ha hu, ?_, rfl⟩
  obtain ⟨p, hp, hpa⟩ := hu
  exact hS.ab hpa (hS c (List.mem_of_getElem? hc) h p hp)
theorem sel_step {l : List ComD} (hk : HOk l) (hl : l.length ≤ 200) {S : Dig → Prop} (hS : Closed l S) {k : Nat} {c : ComD} (hc : l[k]? = some c) (h : S (idD c)) {T : Tr} (ht : TreeOk (selS S (l.take k)) T) : TreeOk (selS S (l.take (k + 1))) (addT T (idD c) c.ops) := by
 rw [sel_yes hc h]
 exact ht.add (sel_may hk hl hS hc h ht)
end Go.Proofs.YtmehkigmnpjcjaaDoor
/- A history's past and a version, as they lie in memory. No condition. -/
namespace Go.Fw
open Go.RowKit
section
variable {w : World} {a : Addr} {v0 v1 v2 : Value}
theorem Mem.historypast0 (h : Mem w a [v0, v1]) : w.cell? (a.add 0) = some v0 := h.cell 0 rfl
theorem Mem.historypast1 (h : Mem w a [v0, v1]) : w.cell? (a.add 1) = some v1 := h.cell 1 rfl
theorem Mem.historyversion0 (h : Mem w a [v0, v1, v2]) : Mem w (a.add 0) [v0, v1] := h.sub 0 fun j v hj => by
 rw [Nat.zero_add]
 match j, hj with
 | 0, hj => exact hj
 | 1, hj => exact hj
theorem Mem.historyversion1 (h : Mem w a [v0, v1, v2]) : w.cell? (a.add 2) = some v2 := h.cell 2 rfl
end
theorem CW.tail {P : Program} {n : NN} {Φ : Exit → Fr → World → Prop} {fr : Fr} {w : World} {x : Code} {X : Type} (g : X → Fr) (W : X → World → Prop)
  (h1 : CW P x n (thenF (fun f w' => ∃ u, Fr.le (g u) f ∧ W u w') Φ) fr w) (h2 : ∀ u w' f, W u w' → Fr.le (g u) f → Φ .normal f w') : CW P x n Φ fr w :=
 CW.mono h1 fun e f w' hp => by
  cases e with
  | normal => obtain ⟨u, hl, hw⟩ := hp; exact h2 u w' f hw hl
  | _ => exact hp
theorem one2 {a b : Value} (ha : a.oneCell' = true) (hb : b.oneCell' = true) : ∀ u ∈ [a, b], u.oneCell' = true := by
 intro u hu; simp at hu; rcases hu with rfl | rfl <;> assumption
theorem one3 {a b c : Value} (ha : a.oneCell' = true) (hb : b.oneCell' = true) (hc : c.oneCell' = true) : ∀ u ∈ [a, b, c], u.oneCell' = true := by
 intro u hu; simp at hu; rcases hu with rfl | rfl | rfl <;> assumption
end Go.Fw
namespace Go.Proofs.YtmehkigmnpjcjaaDoor
open Go.RowKit Go.Fw Go.Pl
abbrev TPa : TypeId := 75
abbrev TVe : TypeId := 84
theorem sz0_past : (Tryd.prog.info? TPa).map (·.size) = some 2 := by kernel_rfl
theorem sz0_version : (Tryd.prog.info? TVe).map (·.size) = some 3 := by kernel_rfl
theorem sz_historypast (a b : Value) : (Tryd.prog.info? TPa).map (·.size) = some [a, b].length := sz0_past
theorem sz_historyversion (a b c : Value) : (Tryd.prog.info? TVe).map (·.size) = some [a, b, c].length := sz0_version
theorem sz_nodes : (Tryd.prog.info? 48).map (·.size) = some 1 := by kernel_rfl
theorem sz_mapdi : (Tryd.prog.info? 73).map (·.size) = some 1 := by kernel_rfl
theorem sz_bools : (Tryd.prog.info? 82).map (·.size) = some 1 := by kernel_rfl
theorem fo_historypast0 : FieldOff Tryd.prog TPa 0 0 := ⟨_, _, 1, Tryd.underlying75, rfl, sz_nodes, by decide, rfl⟩
theorem fo_historypast1 : FieldOff Tryd.prog TPa 1 1 := ⟨_, _, 1, Tryd.underlying75, rfl, sz_mapdi, by decide, rfl⟩
theorem fo_historyversion0 : FieldOff Tryd.prog TVe 0 0 := ⟨_, _, 2, Tryd.underlying84, rfl, sz0_past, by decide, rfl⟩
theorem fo_historyversion1 : FieldOff Tryd.prog TVe 1 2 := ⟨_, _, 1, Tryd.underlying84, rfl, sz_bools, by decide, rfl⟩
theorem info_past : ∃ i : TypeInfo, Tryd.prog.info? TPa = some i ∧ i.zero = some (.agg [.slice none 0 0, .map none].toArray) ∧ i.size = 2 := by
 have h : (Tryd.prog.info? TPa).map (fun i => (i.zero, i.size)) = some (some (.agg [.slice none 0 0, .map none].toArray), 2) := by kernel_rfl
 cases hi : Tryd.prog.info? TPa with
 | none => simp [hi] at h
 | some i => simp [hi] at h; exact ⟨i, rfl, h.1, h.2⟩
theorem info_version : ∃ i : TypeInfo, Tryd.prog.info? TVe = some i ∧ i.zero = some (.agg [.slice none 0 0, .map none, .slice none 0 0].toArray) ∧ i.size = 3 := by
 have h : (Tryd.prog.info? TVe).map (fun i => (i.zero, i.size)) = some (some (.agg [.slice none 0 0, .map none, .slice none 0 0].toArray), 3) := by kernel_rfl
 cases hi : Tryd.prog.info? TVe with
 | none => simp [hi] at h
 | some i => simp [hi] at h; exact ⟨i, rfl, h.1, h.2⟩
theorem as_historypast {n : NN} {Φ : Exit → Fr → World → Prop} {fr : Fr} {w : World} {ops : Array Oper} {rest : List Oper} {d : Nat} {x : Operand} {ty ty' : TypeId} {pos pos' : String} {aft aft' : Array Edge} {v0 v1 : Value}
  (hx : ev fr x = some (.agg [v0, v1].toArray)) (hxd : x ≠ .tmp d) (hd : d < n.1)
  (h : ∀ g w', Ext w w' → w.heap.size ≤ g → Blk w' g TPa [v0, v1] → WL Tryd.prog ops n Φ rest ((d, .pointer (some ⟨g, 0, none⟩)) :: fr) w') (h0 : v0.oneCell' = true := by rfl) (h1 : v1.oneCell' = true := by rfl) :
  WL Tryd.prog ops n Φ (⟨some d, .alloc TPa, ty, pos, aft, none⟩ :: ⟨none, .store TPa (.tmp d) x, ty', pos', aft', none⟩ :: rest) fr w := by
 obtain ⟨i, hi, hz, hs⟩ := info_past
 exact WL.allocStore (cs := [v0, v1]) (zs := [.slice none 0 0, .map none]) hi hz rfl (by rw [hs]; rfl) rfl hx hxd rfl (one2 h0 h1) hd h
theorem as_historyversion {n : NN} {Φ : Exit → Fr → World → Prop} {fr : Fr} {w : World} {ops : Array Oper} {rest : List Oper} {d : Nat} {x : Operand} {ty ty' : TypeId} {pos pos' : String} {aft aft' : Array Edge} {v0 v1 v2 : Value}
  (hx : ev fr x = some (.agg [v0, v1, v2].toArray)) (hxd : x ≠ .tmp d) (hd : d < n.1)
  (h : ∀ g w', Ext w w' → w.heap.size ≤ g → Blk w' g TVe [v0, v1, v2] → WL Tryd.prog ops n Φ rest ((d, .pointer (some ⟨g, 0, none⟩)) :: fr) w') (h0 : v0.oneCell' = true := by rfl) (h1 : v1.oneCell' = true := by rfl) (h2 : v2.oneCell' = true := by rfl) :
  WL Tryd.prog ops n Φ (⟨some d, .alloc TVe, ty, pos, aft, none⟩ :: ⟨none, .store TVe (.tmp d) x, ty', pos', aft', none⟩ :: rest) fr w := by
 obtain ⟨i, hi, hz, hs⟩ := info_version
 exact WL.allocStore (cs := [v0, v1, v2]) (zs := [.slice none 0 0, .map none, .slice none 0 0]) hi hz rfl (by rw [hs]; rfl) rfl hx hxd rfl (one3 h0 h1 h2) hd h
theorem build_version (A B : Option Addr) (r m c n d : Nat) (w : World) : (Instr.build TVe [(0, .agg [.slice A m c, .map (some r)].toArray), (1, .slice B n d)].toArray).run Tryd.prog w = .ok (.agg [.slice A m c, .map (some r), .slice B n d].toArray) w := run_build w _ _ _ kr_
theorem build_past (r : Nat) (w : World) : (Instr.build TPa [(1, .map (some r))].toArray).run Tryd.prog w = .ok (.agg [.slice none 0 0, .map (some r)].toArray) w := run_build w _ _ _ kr_
structure PaAt (w : World) (A : Option Addr) (c r cl : Nat) (ys : List NdV) (P : List ComD) : Prop where
 nds : Nds w (.slice A ys.length c) ys
 map : MapAt w r pme (placed (idsH P)) cl
 is : ndsL ys = ndsH P
theorem PaAt.ext {w w' : World} {A : Option Addr} {c r cl : Nat} {ys : List NdV} {P : List ComD} (h : PaAt w A c r cl ys P) (hc : Ext w w') : PaAt w' A c r cl ys P := ⟨h.nds.ext hc, h.map.ext hc, h.is⟩
theorem PaAt.chg {w w' : World} {A : Option Addr} {c r cl : Nat} {ys : List NdV} {P : List ComD} {S : Nat → Prop} (h : PaAt w A c r cl ys P) (hc : Chg S w w') (h0 : ∀ k, S k → w.heap.size ≤ k) : PaAt w' A c r cl ys P := h.ext (hc.toExt fun i hi hs => by have := h0 i hs; omega)
theorem PaAt.len {w : World} {A : Option Addr} {c r cl : Nat} {ys : List NdV} {P : List ComD} (h : PaAt w A c r cl ys P) : ys.length = P.length := by
 have := congrArg List.length h.is
 simpa using this
abbrev paC (A : Option Addr) (n c r : Nat) : List Value := [.slice A n c, .map (some r)]
abbrev veC (A : Option Addr) (n c r b : Nat) : List Value := [.slice A n c, .map (some r), .slice (some ⟨b, 0, none⟩) n n]
end Go.Proofs.YtmehkigmnpjcjaaDoor
/- What stands beneath some commits: past.beneath, walked. No condition. -/
namespace Go.Fw
open Go.RowKit
theorem St.allocV {P : Program} {n : NN} {fr : Fr} {w : World} {ty : TypeId} {t : TypeId} {i : TypeInfo} {z : Value} {cs : List Value} (hi : P.info? t = some i) (hz : i.zero = some z) (hv : z.cells = cs.toArray) : St P n fr (.alloc t) ty w (fun v w' => ∃ g, v = .pointer (some ⟨g, 0, none⟩) ∧ w.heap.size ≤ g ∧ Blk w' g t cs ∧ Ext w w') := fun a o' ho hty ha => by
 refine ⟨_, w.alloc (.cells cs.toArray t), ?_, w.heap.size, rfl, Nat.le_refl _, Blk.new w t cs, Chg.alloc _⟩
 simp [execOp, ho, Instr.alloc, zeroValue, typeInfo, hi, hz, newVar, newRow, hv]
end Go.Fw
namespace Go.Proofs.YtmehkigmnpjcjaaDoor
open Go.RowKit Go.Fw Go.Pl Go.Sort
theorem setAll_at {l : List Nd} {i : Nat} : ∀ {ds : List Dig} {S : List Bool}, (∀ d ∈ ds, ixN l d ≠ i) → (setAll l S ds)[i]? = S[i]?
 | [], _, _ => rfl
 | d :: ds, S, h => by
  rw [show setAll l S (d :: ds) = setAll l (S.set (ixN l d) true) ds from rfl, setAll_at fun q hq => h q (by simp [hq]), List.getElem?_set_ne (h d (by simp))]
set_option maxRecDepth 100000 in
set_option maxHeartbeats 4000000 in
theorem hbeneath_any (A : Option Addr) (c r cl : Nat) (v0 : Value) (ys : List NdV) (ids : List Dig) (w : World) (hN : Nds w (.slice A ys.length c) ys) (hok : (readE (ndsL ys)).2 = 0) (hM : MapAt w r pme (placed (idsL (ndsL ys))) cl) (hd : Sl w digC 32 v0 ids) (hin : ∀ d ∈ ids, d ∈ idsL (ndsL ys)) : Calls Tryd.prog 27 #[.agg (paC A ys.length c r).toArray, v0] w (Ret fun v w' => ∃ b, v = .agg (veC A ys.length c r b).toArray ∧ w.heap.size ≤ b ∧ Blk w' b TBo (boolC (markF (ndsL ys) ids)) ∧ Ext w w') := by
 have hd0 := hd
 obtain ⟨A1, m1, c1, rfl, hdm, hdc, hdx, hdg⟩ := hd
 unfold maxLen at hdx
 have hnl : (ndsL ys).length = ys.length := by simp
 obtain ⟨bi, hbi, hbz, hbs, hbb⟩ := info_boolT
 obtain ⟨vi_, hvi, hvz, hvs⟩ := info_version
 have hln := ok_len hok
 rw [hnl] at hln
 have hrl := hM.lt
 refine calls_of_CWc 64 4 3 [(0, .agg (paC A ys.length c r).toArray), (1, .slice A1 m1 c1)] Tryd.func27 rfl rfl rfl Tryd.underlying84 rfl kr_ (by simp) args2 ?_
 have hE : Ext w w := Chg.refl
 refine CW.sr fun K1 hK1 => ?_
 refine WL.box rfl rfl de_ fun g2 w1 hx1 hg2 hB2 => ?_
 have hlt2 := hB2.lt; have hz1 := hx1.size
 have hM2 := hB2.mem; have hz1 := hx1.size; have hE := hE.thenExt hx1
 refine WL.alloc (hvi) (hvz) rfl de_ fun g4 w2 hx2 hg4 hB4 => ?_
 have hlt4 := hB4.lt; have hz2 := hx2.size
 have hM4 := hB4.mem; have hz2 := hx2.size; have hE := hE.thenExt hx2; have hB2 := hB2.ext hx2
 refine WL.nil (hK1 _ _ ?_); try clear hK1
 refine CW.seq_to (X := Nat × Nat) (fun u => [(1, .slice A1 m1 c1), (2, .pointer (some ⟨g2, 0, none⟩)), (4, .pointer (some ⟨g4, 0, none⟩)), (5, .pointer (some ⟨u.1, 0, none⟩))]) (fun u w0 => Blk w0 u.1 TVe (veC A ys.length c r u.2) ∧ Blk w0 u.2 TBo (boolC (List.replicate ys.length false)) ∧ Ext w2 w0 ∧ w2.heap.size ≤ u.1 ∧ w2.heap.size ≤ u.2 ∧ u.1 ≠ u.2) ?_ ?_
 ·
  skip
  refine CW.held (fun wq => Ext w2 wq) kr_ 8 rfl fun w3 hS => ?_
  refine RH.tk 0 hS rfl (fun wq hq => Y.load Tryd.underlying75 rfl (hB2.ext hq).mem (sz_historypast _ _) rfl) ?_
  refine RH.tk 1 hS rfl (fun wq hq => Y.fieldAddr fo_historypast0 rfl) ?_
  refine RH.tk 2 hS rfl (fun wq hq => Y.load1 Tryd.underlying48 rfl (hB2.ext hq).mem.historypast0 rfl) ?_
  refine RH.tk 3 hS rfl (fun wq hq => Y.len_slice Tryd.underlying48 rfl) ?_
  refine RH.two 4 6 kr_ ?_ ?_
  ·
   skip
   refine RS.st rfl (St.makeB Tryd.underlying82 hbi hbz hbs hbb rfl rfl om_) de_ fun v15 w4 hR4 => ?_
   have hz0_ := hS.size
   obtain ⟨ib, rfl, hib, hIn, hx_a⟩ := hR4
   have hz_a := hx_a.size
   have hlti := hIn.lt
   have hS := hS.thenExt hx_a
   refine ⟨hS, ?_⟩
   refine RH.tk 5 hS rfl (fun wq hq => Y.build rfl ((build_version A _ r _ c _ _ _))) ?_
   refine RH.one 6 kr_ ?_
   refine RS.st rfl (St.allocV hvi hvz rfl) de_ fun v5 w5 hR5 => ?_
   obtain ⟨g5, rfl, hg5, hB5, hx_b⟩ := hR5
   have hz_b := hx_b.size
   have hS := hS.thenExt hx_b
   have hIn := hIn.ext hx_b
   have hltg := hB5.lt
   refine ⟨hS, ?_⟩
   refine RH.one 7 kr_ ?_
   refine RS.store rfl (g := g5) (pre := []) (old := [.slice none 0 0, .map none, .slice none 0 0]) (post := []) (new := veC A ys.length c r ib) rfl rfl rfl rfl kr_ (by simpa using hB5) rfl (one3 rfl rfl rfl) (fun w6 hc6 hB6_ => ?_)
   have hS := hS.step hc6 (fun k h => by omega)
   have hIn := hIn.chg hc6 no_
   have hB5 : Blk w6 g5 TVe (veC A ys.length c r ib) := by simpa using hB6_
   refine ⟨hS, ?_⟩
   refine RH.done kr_ ?_
   have hx7 := hS; have hz7 := hx7.size; have hE := hE.thenExt hx7; have hB2 := hB2.ext hx7; have hB4 := hB4.ext hx7
   exact ⟨(g5, ib), Fr.ok, hB5, hIn, hS, om_, om_, om_⟩
  ·
   skip
   refine RS.st rfl (St.allocV hvi hvz rfl) de_ fun v5 w8 hR8 => ?_
   have hz0_ := hS.size
   obtain ⟨g5, rfl, hg5, hB5, hx_a⟩ := hR8
   have hz_a := hx_a.size
   have hltg := hB5.lt
   have hS := hS.thenExt hx_a
   refine ⟨hS, ?_⟩
   refine RH.one 4 kr_ ?_
   refine RS.st rfl (St.makeB Tryd.underlying82 hbi hbz hbs hbb rfl rfl om_) de_ fun v15 w9 hR9 => ?_
   obtain ⟨ib, rfl, hib, hIn, hx_b⟩ := hR9
   have hz_b := hx_b.size
   have hS := hS.thenExt hx_b
   have hB5 := hB5.ext hx_b
   have hlti := hIn.lt
   refine ⟨hS, ?_⟩
   refine RH.tk 5 hS rfl (fun wq hq => Y.build rfl ((build_version A _ r _ c _ _ _))) ?_
   refine RH.one 7 kr_ ?_
   refine RS.store rfl (g := g5) (pre := []) (old := [.slice none 0 0, .map none, .slice none 0 0]) (post := []) (new := veC A ys.length c r ib) rfl rfl rfl rfl kr_ (by simpa using hB5) rfl (one3 rfl rfl rfl) (fun w10 hc10 hB10_ => ?_)
   have hS := hS.step hc10 (fun k h => by omega)
   have hIn := hIn.chg hc10 no_
   have hB5 : Blk w10 g5 TVe (veC A ys.length c r ib) := by simpa using hB10_
   refine ⟨hS, ?_⟩
   refine RH.done kr_ ?_
   have hx11 := hS; have hz11 := hx11.size; have hE := hE.thenExt hx11; have hB2 := hB2.ext hx11; have hB4 := hB4.ext hx11
   exact ⟨(g5, ib), Fr.ok, hB5, hIn, hS, om_, om_, om_⟩
 rintro u w12 hj12
 obtain ⟨g5, ib⟩ := u
 dsimp only at hj12 ⊢
 obtain ⟨hB5, hIn, hx12, h5, hib, hne⟩ := hj12
 have hz12 := hx12.size
 have hE := hE.thenExt hx12
 have hB2 := hB2.ext hx12
 have hB4 := hB4.ext hx12
 have hlt5 := hB5.lt
 have hlti := hIn.lt
 refine CW.seq fun K2 hK2 => ?_
 refine CW.sr fun K3 hK3 => ?_
 refine WL.m rfl ?_
 refine WL.v (Y.len_slice Tryd.underlying25 rfl) ?_
 refine WL.m rfl ?_
 refine WL.nil (hK3 _ _ ?_); try clear hK3
 refine CW.block ?_
 refine CW.loop (X := Nat) (fun x => [(2, .pointer (some ⟨g2, 0, none⟩)), (4, .pointer (some ⟨g4, 0, none⟩)), (5, .pointer (some ⟨g5, 0, none⟩)), (17, .slice A1 m1 c1), (18, .int .i64 (m1 : Int)), (19, .int .i64 (x : Int))]) (fun x w0 => x ≤ m1 ∧ Blk w0 ib TBo (boolC (setAll (ndsL ys) (List.replicate ys.length false) (ids.take x))) ∧ Ext w w0 ∧ Blk w0 g2 TPa (paC A ys.length c r) ∧ Blk w0 g4 TVe [.slice none 0 0, .map none, .slice none 0 0] ∧ Blk w0 g5 TVe (veC A ys.length c r ib)) (fun x => m1 - x) 0 Fr.ok ⟨Nat.zero_le _, by simpa [setAll] using hIn, hE, hB2, hB4, hB5⟩ ?_
 intro x w13 hl13
 clear hE hB2 hB4 hB5 hIn
 obtain ⟨hxm, hIn, hE, hB2, hB4, hB5⟩ := hl13
 have hzE := hE.size
 have hlti2 := hIn.lt
 refine CW.sr fun K4 hK4 => ?_
 refine WL.v (Y.lss rfl rfl) ?_
 refine WL.nil (hK4 _ _ ?_); try clear hK4
 refine CW.seq fun K5 hK5 => ?_
 (first | refine cd_ rfl ?_ ?_ | refine ce_ rfl ?_ ?_ | refine cn_ rfl ?_ ?_ | refine cb_ rfl ?_ ?_) <;> intro ht6
 ·
  -- then
  refine CW.skip ?_
  refine hK5 _ _ ?_; try clear hK5
  refine CW.seq fun K7 hK7 => ?_
  refine CW.block ?_
  refine CW.seq fun K8 hK8 => ?_
  obtain ⟨d, hd⟩ : ∃ d, ids[x]? = some d := ⟨_, List.getElem?_eq_getElem om_⟩
  obtain ⟨a2, rfl, hma2⟩ := hdg _ _ hd
  have hdi := hin d (List.mem_of_getElem? hd)
  have hix := ixN_lt hdi
  rw [hnl] at hix
  obtain ⟨jf, hf⟩ := placed_ix hdi
  obtain ⟨cb2, hcb2⟩ : ∃ cb, (setAll (ndsL ys) (List.replicate ys.length false) (ids.take x))[ixN (ndsL ys) d]? = some cb := ⟨_, List.getElem?_eq_getElem (by rw [setAll_length, List.length_replicate]; omega)⟩
  refine CW.region ?_
  refine WL.v (Y.indexAddrN Tryd.underlying25 rfl rfl sz0_apiDigest om_) ?_
  refine WL.v (Y.load Tryd.underlying36 rfl (hma2.ext hE) (sz_apiDigest _) rfl) ?_
  refine as_apiDigest rfl (by simp) de_ fun g7 w14 hx14 hg7 hB7 => ?_
  have hlt7 := hB7.lt; have hz14 := hx14.size
  have hM7 := hB7.mem; have hz14 := hx14.size; have hE := hE.thenExt hx14; have hB2 := hB2.ext hx14; have hB4 := hB4.ext hx14; have hB5 := hB5.ext hx14
  refine WL.nil (hK8 _ _ ?_); try clear hK8
  refine CW.head 7 kr_ kr_ fun w15 hx15 => ?_
  skip; have hz15 := hx15.size; have hE := hE.thenExt hx15; have hB2 := hB2.ext hx15; have hB4 := hB4.ext hx15; have hB5 := hB5.ext hx15; have hB7 := hB7.ext hx15
  refine HL.val (Y.fieldAddr fo_historyversion1 rfl) de_ ?_
  refine HL.val (Y.load1 Tryd.underlying82 rfl hB5.mem.historyversion1 rfl) de_ ?_
  refine HL.val (Y.fieldAddr fo_historypast1 rfl) de_ ?_
  refine HL.val (Y.load1 Tryd.underlying73 rfl hB2.mem.historypast1 rfl) de_ ?_
  refine HL.val (Y.load Tryd.underlying36 rfl hB7.mem (sz_apiDigest _) rfl) de_ ?_
  refine HL.val (Y.lookupAt keyDig (fun _ => rfl) Tryd.underlying73 rfl rfl (hM.ext hE) hf rfl) de_ ?_
  refine HL.val (Y.indexAddrN Tryd.underlying82 rfl rfl sz0_bool om_) de_ ?_
  refine HL.nil ?_
  refine WL.storeB rfl rfl rfl sz_bool ((hIn.ext hx14).ext hx15) hcb2 (fun w16 hc16 hB16_ => ?_)
  have hz16 := hc16.size; have hE := hE.step hc16 (fun k h => by omega); have hB2 := hB2.chg hc16 no_; have hB4 := hB4.chg hc16 no_; have hB5 := hB5.chg hc16 no_; have hB7 := hB7.chg hc16 no_
  have hIn := hB16_
  refine WL.nil (hK7 _ _ ?_); try clear hK7
  refine CW.region ?_
  refine WL.v (Y.add rfl rfl o2_) ?_
  refine WL.m rfl ?_
  refine WL.nil ?_
  refine ⟨x + 1, by show m1 - (x + 1) < m1 - x; omega, Fr.ok, by show x + 1 ≤ m1; omega, ?_, hE, hB2, hB4, hB5⟩
  show Blk _ _ _ (boolC (setAll _ _ (ids.take (x + 1))))
  rw [take_succ hd, setAll_app]
  exact hIn
 refine CW.exit ?_
 refine hK2 _ _ ?_; try clear hK2
 refine CW.seq fun K9 hK9 => ?_
 refine CW.sr fun K10 hK10 => ?_
 refine WL.v (Y.fieldAddr fo_historypast0 rfl) ?_
 refine WL.v (Y.load1 Tryd.underlying48 rfl hB2.mem.historypast0 rfl) ?_
 refine WL.v (Y.len_slice Tryd.underlying48 rfl) ?_
 refine WL.v (Y.sub rfl rfl o2_) ?_
 refine WL.a rfl ?_
 refine WL.nil (hK10 _ _ ?_); try clear hK10
 refine CW.block ?_
 refine CW.loop (X := Nat × List Bool) (fun x => [(2, .pointer (some ⟨g2, 0, none⟩)), (4, .pointer (some ⟨g4, 0, none⟩)), (5, .pointer (some ⟨g5, 0, none⟩)), (8, .int .i64 ((x.1 : Int) - 1))]) (fun x w0 => x.1 ≤ ys.length ∧ Blk w0 ib TBo (boolC x.2) ∧ x.2.length = ys.length ∧ markF (ndsL ys) ids = markD (ndsL ys) x.1 x.2 ∧ Ext w w0 ∧ Blk w0 g2 TPa (paC A ys.length c r) ∧ Blk w0 g4 TVe [.slice none 0 0, .map none, .slice none 0 0] ∧ Blk w0 g5 TVe (veC A ys.length c r ib)) (fun x => x.1) (ys.length, setAll (ndsL ys) (List.replicate ys.length false) ids) Fr.ok ⟨Nat.le_refl _, (by rw [List.take_of_length_le om_] at hIn; exact hIn), by simp [setAll_length], by rw [markF, mark0, hnl], hE, hB2, hB4, hB5⟩ ?_
 intro x w17 hl17
 clear hE hIn hB2 hB4 hB5
 obtain ⟨k, U⟩ := x
 dsimp only at hl17 ⊢
 obtain ⟨hkl, hIn, hUl, hmk, hE, hB2, hB4, hB5⟩ := hl17
 have hzE := hE.size
 have hlti2 := hIn.lt
 refine CW.seq fun K11 hK11 => ?_
 refine CW.sr fun K12 hK12 => ?_
 refine WL.m rfl ?_
 refine WL.v (Y.geq rfl rfl) ?_
 refine WL.nil (hK12 _ _ ?_); try clear hK12
 (first | refine cd_ rfl ?_ ?_ | refine ce_ rfl ?_ ?_ | refine cn_ rfl ?_ ?_ | refine cb_ rfl ?_ ?_) <;> intro ht13
 ·
  -- then
  refine CW.skip ?_
  refine hK11 _ _ ?_; try clear hK11
  refine CW.seq fun K14 hK14 => ?_
  refine CW.block ?_
  refine CW.seq fun K15 hK15 => ?_
  obtain ⟨i, rfl⟩ : ∃ i, k = i + 1 := ⟨k - 1, by omega⟩
  rw [show (((i + 1 : Nat) : Int) - 1) = (i : Int) by omega]
  obtain ⟨y, hy⟩ : ∃ y, ys[i]? = some y := ⟨_, List.getElem?_eq_getElem om_⟩
  obtain ⟨⟨id, ps⟩, Ay, cy⟩ := y
  have hyn : (ndsL ys)[i]? = some ⟨id, ps⟩ := by simp [hy]
  obtain ⟨cu, hcu⟩ : ∃ c, U[i]? = some c := ⟨_, List.getElem?_eq_getElem om_⟩
  obtain ⟨a, rfl, hma⟩ := hN.sl.at hy
  have hps0 := hN.ps _ (List.mem_of_getElem? hy)
  dsimp only [NdV.pv] at hps0
  have hps1 := hps0
  obtain ⟨_, _, _, he_, _, hcy, hcy2, _⟩ := hps1
  cases he_
  unfold maxLen at hcy2
  refine CW.region ?_
  refine WL.v (Y.fieldAddr fo_historypast0 rfl) ?_
  refine WL.v (Y.load1 Tryd.underlying48 rfl hB2.mem.historypast0 rfl) ?_
  refine WL.m rfl ?_
  refine WL.v (Y.indexAddrN Tryd.underlying48 rfl rfl sz0_apiNode om_) ?_
  refine WL.v (Y.fieldAddr fo_apiNode1 rfl) ?_
  refine WL.v (Y.load1 Tryd.underlying25 rfl (hma.ext hE).node1 rfl) ?_
  refine WL.v (Y.len_slice Tryd.underlying25 rfl) ?_
  refine WL.m rfl ?_
  refine WL.nil (hK15 _ _ ?_); try clear hK15
  refine CW.block ?_
  refine CW.loop (X := Nat) (fun x => [(2, .pointer (some ⟨g2, 0, none⟩)), (4, .pointer (some ⟨g4, 0, none⟩)), (5, .pointer (some ⟨g5, 0, none⟩)), (8, .int .i64 (i : Int)), (44, .slice Ay ps.length cy), (45, .int .i64 (ps.length : Int)), (46, .int .i64 (x : Int))]) (fun x w0 => x ≤ ps.length ∧ Blk w0 ib TBo (boolC (if cu = true then setAll (ndsL ys) U (ps.take x) else U)) ∧ Ext w w0 ∧ Blk w0 g2 TPa (paC (some a) ys.length c r) ∧ Blk w0 g4 TVe [.slice none 0 0, .map none, .slice none 0 0] ∧ Blk w0 g5 TVe (veC (some a) ys.length c r ib) ∧ w17.heap.size ≤ w0.heap.size) (fun x => ps.length - x) 0 Fr.ok ⟨Nat.zero_le _, by simpa [setAll] using hIn, hE, hB2, hB4, hB5, Nat.le_refl _⟩ ?_
  intro x w18 hl18
  clear hE hIn hB2 hB4 hB5
  obtain ⟨hxp, hIn, hE, hB2, hB4, hB5, hz18⟩ := hl18
  have hlti3 := hIn.lt
  have hcx : (if cu = true then setAll (ndsL ys) U (ps.take x) else U)[i]? = some cu := by
   split
   ·
    rw [setAll_at fun q hq => by have := (ix_par hok hyn (List.mem_of_mem_take hq)).2; omega]; exact hcu
   ·
    exact hcu
  refine CW.sr fun K16 hK16 => ?_
  refine WL.v (Y.lss rfl rfl) ?_
  refine WL.nil (hK16 _ _ ?_); try clear hK16
  refine CW.seq fun K17 hK17 => ?_
  (first | refine cd_ rfl ?_ ?_ | refine ce_ rfl ?_ ?_ | refine cn_ rfl ?_ ?_ | refine cb_ rfl ?_ ?_) <;> intro ht18
  ·
   -- then
   refine CW.skip ?_
   refine hK17 _ _ ?_; try clear hK17
   refine CW.seq_to (X := Unit) (fun _ => [(2, .pointer (some ⟨g2, 0, none⟩)), (4, .pointer (some ⟨g4, 0, none⟩)), (5, .pointer (some ⟨g5, 0, none⟩)), (8, .int .i64 (i : Int)), (44, .slice Ay ps.length cy), (45, .int .i64 (ps.length : Int)), (46, .int .i64 (x : Int))]) (fun _ w0 => Blk w0 ib TBo (boolC (if cu = true then setAll (ndsL ys) U (ps.take (x + 1)) else U)) ∧ Ext w w0 ∧ Blk w0 g2 TPa (paC (some a) ys.length c r) ∧ Blk w0 g4 TVe [.slice none 0 0, .map none, .slice none 0 0] ∧ Blk w0 g5 TVe (veC (some a) ys.length c r ib) ∧ w18.heap.size ≤ w0.heap.size) ?_ ?_
   ·
    skip
    refine CW.block ?_
    refine CW.seq fun K20 hK20 => ?_
    obtain ⟨d, hd⟩ : ∃ d, ps[x]? = some d := ⟨_, List.getElem?_eq_getElem om_⟩
    obtain ⟨a2, rfl, hma2⟩ := hps0.at hd
    have hdi := (fun d hd => mem_idsTake (ok_par hok hyn hd)) d (List.mem_of_getElem? hd)
    have hix := ixN_lt hdi
    rw [hnl] at hix
    obtain ⟨jf, hf⟩ := placed_ix hdi
    obtain ⟨cb2, hcb2⟩ : ∃ cb, (setAll (ndsL ys) U (ps.take x))[ixN (ndsL ys) d]? = some cb := ⟨_, List.getElem?_eq_getElem (by rw [setAll_length]; omega)⟩
    refine CW.region ?_
    refine WL.v (Y.indexAddrN Tryd.underlying25 rfl rfl sz0_apiDigest om_) ?_
    refine WL.v (Y.load Tryd.underlying36 rfl ((hma2.ext hE)) (sz_apiDigest _) rfl) ?_
    refine as_apiDigest rfl (by simp) de_ fun g10 w19 hx19 hg10 hB10 => ?_
    have hlt10 := hB10.lt; have hz19 := hx19.size
    have hM10 := hB10.mem; have hz19 := hx19.size; have hE := hE.thenExt hx19; have hB2 := hB2.ext hx19; have hB4 := hB4.ext hx19; have hB5 := hB5.ext hx19
    refine WL.nil (hK20 _ _ ?_); try clear hK20
    refine CW.sr fun K21 hK21 => ?_
    refine WL.v (Y.fieldAddr fo_historyversion1 rfl) ?_
    refine WL.v (Y.load1 Tryd.underlying82 rfl hB5.mem.historyversion1 rfl) ?_
    refine WL.m rfl ?_
    refine WL.v (Y.indexAddrN Tryd.underlying82 rfl rfl sz0_bool om_) ?_
    refine WL.v (Y.load1 Tryd.underlying4 rfl ((hIn.ext hx19).bcell hcx) rfl) ?_
    refine WL.nil (hK21 _ _ ?_); try clear hK21
    (first | refine cd_ rfl ?_ ?_ | refine ce_ rfl ?_ ?_ | refine cn_ rfl ?_ ?_ | refine cb_ rfl ?_ ?_) <;> intro ht22
    ·
     -- then
     rw [if_pos ht22] at hIn
     refine CW.head 7 kr_ kr_ fun w20 hx20 => ?_
     skip; have hz20 := hx20.size; have hE := hE.thenExt hx20; have hB2 := hB2.ext hx20; have hB4 := hB4.ext hx20; have hB5 := hB5.ext hx20; have hB10 := hB10.ext hx20
     refine HL.val (Y.fieldAddr fo_historyversion1 rfl) de_ ?_
     refine HL.val (Y.load1 Tryd.underlying82 rfl hB5.mem.historyversion1 rfl) de_ ?_
     refine HL.val (Y.fieldAddr fo_historypast1 rfl) de_ ?_
     refine HL.val (Y.load1 Tryd.underlying73 rfl hB2.mem.historypast1 rfl) de_ ?_
     refine HL.val (Y.load Tryd.underlying36 rfl hB10.mem (sz_apiDigest _) rfl) de_ ?_
     refine HL.val (Y.lookupAt keyDig (fun _ => rfl) Tryd.underlying73 rfl rfl (hM.ext hE) hf rfl) de_ ?_
     refine HL.val (Y.indexAddrN Tryd.underlying82 rfl rfl sz0_bool om_) de_ ?_
     refine HL.nil ?_
     refine WL.storeB rfl rfl rfl sz_bool ((hIn.ext hx19).ext hx20) hcb2 (fun w21 hc21 hB21_ => ?_)
     have hz21 := hc21.size; have hE := hE.step hc21 (fun k h => by omega); have hB2 := hB2.chg hc21 no_; have hB4 := hB4.chg hc21 no_; have hB5 := hB5.chg hc21 no_; have hB10 := hB10.chg hc21 no_
     skip
     refine WL.nil ?_
     exact ⟨(), Fr.ok, by rw [if_pos ht22, take_succ hd, setAll_app]; exact hB21_, hE, hB2, hB4, hB5, by omega⟩
    refine CW.skip ?_
    exact ⟨(), Fr.ok, by rw [if_neg (by simp [ht22])] at hIn ⊢; exact hIn.ext hx19, hE, hB2, hB4, hB5, by omega⟩
   rintro u w22 hj22
   clear hE hB2 hB4 hB5 hIn
   obtain ⟨hIn, hE, hB2, hB4, hB5, hz9⟩ := hj22
   refine CW.region ?_
   refine WL.v (Y.add rfl rfl o2_) ?_
   refine WL.m rfl ?_
   refine WL.nil ?_
   exact ⟨x + 1, by show ps.length - (x + 1) < ps.length - x; omega, Fr.ok, by show x + 1 ≤ ps.length; omega, hIn, hE, hB2, hB4, hB5, by omega⟩
  refine CW.exit ?_
  refine hK14 _ _ ?_; try clear hK14
  refine CW.region ?_
  refine WL.m rfl ?_
  refine WL.v (Y.sub rfl rfl o2_) ?_
  refine WL.a rfl ?_
  refine WL.nil ?_
  refine ⟨(i, if cu = true then setAll (ndsL ys) U ps else U), by show i < i + 1; omega, Fr.ok, by show i ≤ ys.length; omega, ?_, ?_, ?_, hE, hB2, hB4, hB5⟩
  ·
   have h9 := hIn
   rw [List.take_of_length_le om_] at h9
   exact h9
  ·
   show (ite _ _ _ : List Bool).length = _
   split <;> simp [setAll_length, hUl]
  ·
   show _ = markD (ndsL ys) i _
   rw [hmk, markD]
   congr 1
   cases cu with
   | true => rw [upd_yes hyn hcu]; rfl
   | false => rw [upd_no (by rw [hcu]; simp)]; rfl
 refine CW.exit ?_
 refine hK9 _ _ ?_; try clear hK9
 refine CW.sr fun K23 hK23 => ?_
 refine WL.v (Y.load Tryd.underlying84 rfl hB5.mem (sz_historyversion _ _ _) rfl) ?_
 refine WL.store (g := g4) (pre := []) (old := [.slice none 0 0, .map none, .slice none 0 0]) (post := []) (new := veC A ys.length c r ib) rfl rfl rfl rfl kr_ (by simpa using hB4) ln_ (one3 rfl rfl rfl) (fun w23 hc23 hB23_ => ?_)
 have hz23 := hc23.size; have hE := hE.step hc23 (fun k h => by omega); have hB2 := hB2.chg hc23 no_; have hB5 := hB5.chg hc23 no_
 have hB4 : Blk w23 g4 TVe (veC A ys.length c r ib) := by simpa using hB23_
 have hIn := hIn.chg hc23 no_
 refine WL.nil (hK23 _ _ ?_); try clear hK23
 refine CW.ret ?_
 have hk0 : k = 0 := by omega
 subst hk0
 exact ⟨_, _, rfl, hB4.mem, rfl, ib, rfl, by omega, by rw [hmk]; exact hIn, hE⟩
end Go.Proofs.YtmehkigmnpjcjaaDoor
/- A far Ref's element beneath some commits: version.finds; past.wrong, walked. No condition. -/
namespace Go.Fw
open Go.RowKit Go.Pl
section
variable {P : Program} {n : NN} {fr : Fr} {w : World} {ty : TypeId}
theorem Y.subT {x y : Operand} {p : Int} {t t' : TypeId} (hx : ev fr x = some (.int .i64 p)) (hy : ev fr y = some (.int .i64 1)) (h1 : 1 ≤ p) (hb : p ≤ 9223372036854775807) : Yw P n fr (.binOp .sub t x y t') ty w (.int .i64 ((p - 1).toNat : Int)) w := by
 have h := Y.sub (P := P) (n := n) (w := w) (ty := ty) (t := t) (t' := t') hx hy o2_
 rwa [show p - 1 = ((p - 1).toNat : Int) by omega] at h
def lkN (ids : List Dig) (d : Dig) : Nat := if d ∈ ids then ids.idxOf d else 0
theorem lk_find {ids : List Dig} {d : Dig} : mval pme (.int .i64 0) (mfind Prod.fst d (placed ids) 0) = .int .i64 (lkN ids d : Int) ∧ (mfind Prod.fst d (placed ids) 0).isSome = decide (d ∈ ids) := by
 have h := placed_isSome (d := d) (ids := ids) (k := 0) (i := 0)
 rw [show ids.zipIdx 0 = placed ids from rfl] at h
 refine ⟨?_, h⟩
 cases hf : mfind Prod.fst d (placed ids) 0 with
 | none =>
  rw [hf] at h
  have : d ∉ ids := by simpa using h
  rw [lkN, if_neg this]; rfl
 | some p =>
  obtain ⟨j, e⟩ := p
  rw [hf] at h
  have hm : d ∈ ids := by simpa using h
  obtain ⟨h1, h2, h3, h4⟩ := placed_some (k := 0) hf
  simp only [Nat.sub_zero] at h2 h4
  have h5 := findI_at (i := e.2) h2 h4
  rw [findI, if_pos hm] at h5
  rw [lkN, if_pos hm]
  show Value.int .i64 (e.2 : Int) = _
  rw [h5]
end
structure CoV where
 c : ComD
 A : Option Addr
 ca : Nat
 B : Option Addr
 cb : Nat
abbrev CoV.pv (x : CoV) : Value := .slice x.A x.c.parents.length x.ca
abbrev CoV.ov (x : CoV) : Value := .slice x.B x.c.ops.length x.cb
def coC (x : CoV) : List Value := comC x.pv x.c.author x.c.note x.ov
theorem coC_length (x : CoV) : (coC x).length = 4 := rfl
abbrev coV (x : CoV) : Value := .agg (coC x).toArray
theorem one_coC {x : CoV} : ∀ u ∈ coC x, u.oneCell' = true := by
 intro u hu
 simp only [coC, comC, List.mem_cons, List.not_mem_nil, or_false] at hu
 rcases hu with rfl | rfl | rfl | rfl <;> rfl
structure CoAt (w : World) (x : CoV) : Prop where
 ps : Sl w digC 32 x.pv x.c.parents
 os : Sl w opC 37 x.ov x.c.ops
 au : x.c.author.size ≤ maxLen
 no : x.c.note.size ≤ maxLen
theorem CoAt.ext {w w' : World} {x : CoV} (h : CoAt w x) (hc : Ext w w') : CoAt w' x := ⟨h.ps.ext hc, h.os.ext hc, h.au, h.no⟩
theorem CoAt.com {w : World} {x : CoV} (h : CoAt w x) : Com w (coV x) x.c := ⟨x.pv, x.ov, rfl, h.ps, h.os, h.au, h.no⟩
structure Hcs (w : World) (u : Value) (l : List CoV) : Prop where
 sl : Sl w coC 4 u l
 all : ∀ x ∈ l, CoAt w x
theorem Hcs.ext {w w' : World} {u : Value} {l : List CoV} (h : Hcs w u l) (hc : Ext w w') : Hcs w' u l := ⟨h.sl.ext hc, fun x hx => (h.all x hx).ext hc⟩
abbrev csL (l : List CoV) : List ComD := l.map CoV.c
end Go.Fw
namespace Go.Proofs.YtmehkigmnpjcjaaDoor
open Go.RowKit Go.Fw Go.Pl Go.Sort Go.Fu
section
variable {n : NN} {fr : Fr} {w : World} {ty : TypeId}
theorem Y.lookupK {x y : Operand} {d : Dig} {ids : List Dig} {r cl : Nat} (hx : ev fr x = some (.map (some r))) (hy : ev fr y = some (digV d)) (hM : MapAt w r pme (placed ids) cl) :
  Yw Tryd.prog n fr (.lookup 73 x y true) ty w (.tuple #[.int .i64 (lkN ids d : Int), .bool (decide (d ∈ ids))]) w := by
 have h := Y.lookupOk (ty := ty) (n := n) keyDig (fun _ => rfl) Tryd.underlying73 zero_int hx hy hM
 rw [lk_find.1, lk_find.2] at h
 exact h
end
theorem sz0_apiCommit : (Tryd.prog.info? 29).map (·.size) = some 4 := by kernel_rfl
theorem lk_ix {P : List ComD} {d : Dig} (h : d ∈ idsH P) : lkN (idsH P) d = ixN (ndsH P) d := by rw [lkN, if_pos h, ixN, ids_nds]
theorem lk_lt {P : List ComD} {d : Dig} (h : d ∈ idsH P) : lkN (idsH P) d < P.length := by
 rw [lkN, if_pos h]
 have := List.idxOf_lt_length_iff.2 h
 simpa using this
theorem finds_at {w : World} {A2 : Option Addr} {m2 c2 : Nat} {l : List CoV} {P : List ComD} (hl : Hcs w (.slice A2 m2 c2) l) (hPl : P = (csL l).take P.length) (U : List Bool) (hU : U.length = P.length) (d : Dig) :
  ∃ (x : CoV) (a2 a3 : Addr), d ∈ idsH P → A2 = some a2 ∧ Mem w (a2.add (lkN (idsH P) d * 4)) (coC x) ∧ lkN (idsH P) d < m2 ∧ x.c.ops = opsHi P d ∧ U[lkN (idsH P) d]? = some (bitAt U (ndsH P) d) ∧ Sl w opC 37 x.ov x.c.ops ∧ (x.c.ops ≠ [] → x.B = some a3) := by
 by_cases h : d ∈ idsH P
 ·
  have hlt := lk_lt h
  obtain ⟨p, h1⟩ : ∃ p, P[lkN (idsH P) d]? = some p := ⟨_, List.getElem?_eq_getElem hlt⟩
  have h2 : ((csL l).take P.length)[lkN (idsH P) d]? = some p := by rw [← hPl]; exact h1
  rw [List.getElem?_take, if_pos hlt, List.getElem?_map] at h2
  obtain ⟨x, hx, rfl⟩ := Option.map_eq_some_iff.1 h2
  obtain ⟨A', m', c', he, hlm, _, _, hg⟩ := id hl.sl
  cases he
  obtain ⟨a2, rfl, hm⟩ := hg _ _ hx
  have hos := (hl.all x (List.mem_of_getElem? hx)).os
  have hxl := (List.getElem?_eq_some_iff.1 hx).1
  have e3 : ∃ a3, x.c.ops ≠ [] → x.B = some a3 := by
   cases ho : x.c.ops with
   | nil => exact ⟨⟨0, 0, none⟩, fun h => absurd rfl h⟩
   | cons o r =>
    obtain ⟨B, mb, cb, he, _, _, _, hg⟩ := hos
    obtain ⟨a3, ha, _⟩ := hg 0 o (by rw [ho]; rfl)
    injection he with he
    exact ⟨a3, fun _ => he.trans ha⟩
  obtain ⟨a3, h3⟩ := e3
  refine ⟨x, a2, a3, fun _ => ⟨rfl, hm, by omega, ?_, ?_, hos, h3⟩⟩
  ·
   rw [opsHi, ← lk_ix h, h1]; rfl
  ·
   rw [bitAt, ← lk_ix h]
   have : U[lkN (idsH P) d]? = some U[lkN (idsH P) d] := List.getElem?_eq_getElem om_
   rw [this]; rfl
 ·
  exact ⟨⟨nilC, none, 0, none, 0⟩, ⟨0, 0, none⟩, ⟨0, 0, none⟩, fun hh => absurd hh h⟩
set_option maxRecDepth 100000 in
theorem hfinds_any (A : Option Addr) (c r cl b : Nat) (ys : List NdV) (P : List ComD) (ids : List Dig) (A2 : Option Addr) (m2 c2 : Nat) (l : List CoV) (rr : RefD) (w : World) (hP : PaAt w A c r cl ys P) (hB : Blk w b TBo (boolC (markF (ndsL ys) ids))) (hl : Hcs w (.slice A2 m2 c2) l) (hPl : P = (csL l).take P.length) (hn : 1 ≤ rr.n ∧ rr.n ≤ 2000) : Calls Tryd.prog 66 #[.agg (veC A ys.length c r b).toArray, .slice A2 m2 c2, refV rr] w (Ret fun v w' => v = .bool (fndB P ids rr) ∧ Ext w w') := by
 have hyl := hP.len
 obtain ⟨x, a2, a3, hfd⟩ := finds_at hl hPl (markF (ndsH P) ids) (by rw [markF_length, List.length_map]) rr.c
 rw [hP.is] at hB
 refine calls_of_CW 51 [6] [(0, .agg (veC A ys.length c r b).toArray), (1, .slice A2 m2 c2), (2, refV rr)] Tryd.func66 rfl rfl rfl (by simp) args3 ?_
 have hE : Ext w w := Chg.refl
 refine CW.sr fun K1 hK1 => ?_
 refine WL.box rfl rfl de_ fun g3 w1 hx1 hg3 hB3 => ?_
 have hlt3 := hB3.lt; have hz1 := hx1.size
 have hM3 := hB3.mem; have hz1 := hx1.size; have hE := hE.thenExt hx1
 refine WL.box rfl rfl de_ fun g5 w2 hx2 hg5 hB5 => ?_
 have hlt5 := hB5.lt; have hz2 := hx2.size
 have hM5 := hB5.mem; have hz2 := hx2.size; have hE := hE.thenExt hx2; have hB3 := hB3.ext hx2
 refine WL.a rfl ?_
 refine WL.nil (hK1 _ _ ?_); try clear hK1
 refine CW.sr fun K2 hK2 => ?_
 refine WL.v (Y.fieldAddr fo_historyversion0 rfl) ?_
 refine WL.v (Y.fieldAddr fo_historypast1 rfl) ?_
 refine WL.v (Y.load1 Tryd.underlying73 rfl hB3.mem.historyversion0.historypast1 rfl) ?_
 refine WL.v (Y.fieldAddr fo_apiRef1 rfl) ?_
 refine WL.v (Y.load Tryd.underlying36 rfl hB5.mem.ref1 (sz_apiDigest _) rfl) ?_
 refine WL.v (Y.lookupK rfl rfl (hP.map.ext hE)) ?_
 refine WL.m rfl ?_
 refine WL.v (Y.extract rfl rfl) ?_
 refine WL.v (Y.extract rfl rfl) ?_
 refine WL.a rfl ?_
 refine WL.a rfl ?_
 refine WL.nil (hK2 _ _ ?_); try clear hK2
 refine CW.seq fun K3 hK3 => ?_
 refine CW.quiet (fun wq => Ext w2 wq) kr_ kr_ Chg.drew ?_
 refine QL.m rfl ?_
 refine QL.m rfl ?_
 (first | refine QL.casesD (d := 19) rfl ?_ ?_ | refine QL.casesND (d := 19) rfl ?_ ?_ | refine QL.cases (d := 19) rfl ?_ ?_) <;> intro hg19
 ·
  -- t19 = T
  obtain ⟨rfl, hmx, hlk, hops, hU, hos, _⟩ := hfd hg19
  obtain ⟨xc, xA, xca, xB, xcb⟩ := x
  dsimp only at hmx hops hos
  refine QL.g rfl rfl (fun wq hq => Y.fieldAddr fo_historyversion1 rfl) ?_
  refine QL.g rfl rfl (fun wq hq => Y.load1 Tryd.underlying82 rfl (hB3.ext hq).mem.historyversion1 rfl) ?_
  refine QL.g rfl rfl (fun wq hq => Y.move rfl) ?_
  refine QL.g rfl rfl (fun wq hq => Y.indexAddrN Tryd.underlying82 rfl rfl sz0_bool (by have := lk_lt hg19; omega)) ?_
  refine QL.g rfl rfl (fun wq hq => Y.load1 Tryd.underlying4 rfl ((hB.ext (hE.thenExt hq)).bcell hU) rfl) ?_
  refine QL.v (fun wq hq => Y.pick rfl rfl) ?_
  refine QL.m rfl ?_
  (first | refine QL.casesD (d := 26) rfl ?_ ?_ | refine QL.casesND (d := 26) rfl ?_ ?_ | refine QL.cases (d := 26) rfl ?_ ?_) <;> intro hg26
  ·
   -- t26 = T
   refine QL.g rfl rfl (fun wq hq => Y.fieldAddr fo_apiRef2 rfl) ?_
   refine QL.g rfl rfl (fun wq hq => Y.load1 Tryd.underlying3 rfl (hB5.ext hq).mem.ref2 rfl) ?_
   refine QL.g rfl rfl (fun wq hq => Y.move rfl) ?_
   refine QL.g rfl rfl (fun wq hq => Y.move rfl) ?_
   refine QL.g rfl rfl (fun wq hq => Y.indexAddrN Tryd.underlying22 rfl rfl sz0_apiCommit hlk) ?_
   refine QL.g rfl rfl (fun wq hq => Y.fieldAddr fo_apiCommit3 rfl) ?_
   refine QL.g rfl rfl (fun wq hq => Y.load1 Tryd.underlying27 rfl (show wq.cell? _ = some (.slice xB xc.ops.length xcb) from (hmx.ext (hE.thenExt hq)).com3) rfl) ?_
   refine QL.g rfl rfl (fun wq hq => Y.len_slice Tryd.underlying27 rfl) ?_
   refine QL.g rfl rfl (fun wq hq => Y.leq rfl rfl) ?_
   refine QL.v (fun wq hq => Y.pick rfl rfl) ?_
   refine QL.m rfl ?_
   (first | refine QL.casesD (d := 37) rfl ?_ ?_ | refine QL.casesND (d := 37) rfl ?_ ?_ | refine QL.cases (d := 37) rfl ?_ ?_) <;> intro hg37
   ·
    -- t37 = T
    obtain ⟨o, ho⟩ : ∃ o, xc.ops[(rr.n - 1).toNat]? = some o := ⟨_, List.getElem?_eq_getElem om_⟩
    obtain ⟨a4, rfl, hmo⟩ := hos.at ho
    refine QL.g rfl rfl (fun wq hq => Y.move rfl) ?_
    refine QL.g rfl rfl (fun wq hq => Y.move rfl) ?_
    refine QL.g rfl rfl (fun wq hq => Y.indexAddrN Tryd.underlying22 rfl rfl sz0_apiCommit hlk) ?_
    refine QL.g rfl rfl (fun wq hq => Y.fieldAddr fo_apiCommit3 rfl) ?_
    refine QL.g rfl rfl (fun wq hq => Y.load1 Tryd.underlying27 rfl (show wq.cell? _ = some (.slice (some a4) xc.ops.length xcb) from (hmx.ext (hE.thenExt hq)).com3) rfl) ?_
    refine QL.g rfl rfl (fun wq hq => Y.fieldAddr fo_apiRef2 rfl) ?_
    refine QL.g rfl rfl (fun wq hq => Y.load1 Tryd.underlying3 rfl (hB5.ext hq).mem.ref2 rfl) ?_
    refine QL.g rfl rfl (fun wq hq => Y.subT rfl rfl hn.1 om_) ?_
    refine QL.g rfl rfl (fun wq hq => Y.indexAddrN Tryd.underlying27 rfl rfl sz0_apiOp om_) ?_
    refine QL.g rfl rfl (fun wq hq => Y.fieldAddr fo_apiOp0 rfl) ?_
    refine QL.g rfl rfl (fun wq hq => Y.load1 Tryd.underlying3 rfl (hmo.ext (hE.thenExt hq)).op0 rfl) ?_
    refine QL.g rfl rfl (fun wq hq => Y.eql rfl rfl) ?_
    refine QL.v (fun wq hq => Y.pick rfl rfl) ?_
    refine QL.a rfl ?_
    refine QL.nil fun w3 hx3 => ?_
    have hz3 := hx3.size
    have hE := hE.thenExt hx3
    have hB3 := hB3.ext hx3
    have hB5 := hB5.ext hx3
    refine hK3 _ _ ?_; try clear hK3
    refine CW.ret ⟨_, rfl, ?_⟩
    exact ⟨by rw [fndB, decide_eq_true hg19, hg26, ← hops, decide_eq_true hg37, kindAt, ho]; rfl, hE⟩
   ·
    -- t37 = F
    refine QL.o rfl rfl ?_
    refine QL.o rfl rfl ?_
    refine QL.o rfl rfl ?_
    refine QL.o rfl rfl ?_
    refine QL.o rfl rfl ?_
    refine QL.o rfl rfl ?_
    refine QL.o rfl rfl ?_
    refine QL.o rfl rfl ?_
    refine QL.o rfl rfl ?_
    refine QL.o rfl rfl ?_
    refine QL.o rfl rfl ?_
    refine QL.o rfl rfl ?_
    refine QL.v (fun wq hq => Y.pick rfl rfl) ?_
    refine QL.a rfl ?_
    refine QL.nil fun w4 hx4 => ?_
    have hz4 := hx4.size
    have hE := hE.thenExt hx4
    have hB3 := hB3.ext hx4
    have hB5 := hB5.ext hx4
    refine hK3 _ _ ?_; try clear hK3
    refine CW.ret ⟨_, rfl, ?_⟩
    exact ⟨by rw [fndB, decide_eq_true hg19, hg26, ← hops, decide_eq_false hg37]; rfl, hE⟩
  ·
   -- t26 = F
   refine QL.o rfl rfl ?_
   refine QL.o rfl rfl ?_
   refine QL.o rfl rfl ?_
   refine QL.o rfl rfl ?_
   refine QL.o rfl rfl ?_
   refine QL.o rfl rfl ?_
   refine QL.o rfl rfl ?_
   refine QL.o rfl rfl ?_
   refine QL.o rfl rfl ?_
   refine QL.v (fun wq hq => Y.pick rfl rfl) ?_
   refine QL.m rfl ?_
   refine QL.o rfl rfl ?_
   refine QL.o rfl rfl ?_
   refine QL.o rfl rfl ?_
   refine QL.o rfl rfl ?_
   refine QL.o rfl rfl ?_
   refine QL.o rfl rfl ?_
   refine QL.o rfl rfl ?_
   refine QL.o rfl rfl ?_
   refine QL.o rfl rfl ?_
   refine QL.o rfl rfl ?_
   refine QL.o rfl rfl ?_
   refine QL.o rfl rfl ?_
   refine QL.v (fun wq hq => Y.pick rfl rfl) ?_
   refine QL.a rfl ?_
   refine QL.nil fun w5 hx5 => ?_
   have hz5 := hx5.size
   have hE := hE.thenExt hx5
   have hB3 := hB3.ext hx5
   have hB5 := hB5.ext hx5
   refine hK3 _ _ ?_; try clear hK3
   refine CW.ret ⟨_, rfl, ?_⟩
   exact ⟨by rw [fndB, hg26]; simp, hE⟩
 ·
  -- t19 = F
  refine QL.o rfl rfl ?_
  refine QL.o rfl rfl ?_
  refine QL.o rfl rfl ?_
  refine QL.o rfl rfl ?_
  refine QL.o rfl rfl ?_
  refine QL.v (fun wq hq => Y.pick rfl rfl) ?_
  refine QL.m rfl ?_
  refine QL.o rfl rfl ?_
  refine QL.o rfl rfl ?_
  refine QL.o rfl rfl ?_
  refine QL.o rfl rfl ?_
  refine QL.o rfl rfl ?_
  refine QL.o rfl rfl ?_
  refine QL.o rfl rfl ?_
  refine QL.o rfl rfl ?_
  refine QL.o rfl rfl ?_
  refine QL.v (fun wq hq => Y.pick rfl rfl) ?_
  refine QL.m rfl ?_
  refine QL.o rfl rfl ?_
  refine QL.o rfl rfl ?_
  refine QL.o rfl rfl ?_
  refine QL.o rfl rfl ?_
  refine QL.o rfl rfl ?_
  refine QL.o rfl rfl ?_
  refine QL.o rfl rfl ?_
  refine QL.o rfl rfl ?_
  refine QL.o rfl rfl ?_
  refine QL.o rfl rfl ?_
  refine QL.o rfl rfl ?_
  refine QL.o rfl rfl ?_
  refine QL.v (fun wq hq => Y.pick rfl rfl) ?_
  refine QL.a rfl ?_
  refine QL.nil fun w6 hx6 => ?_
  have hz6 := hx6.size
  have hE := hE.thenExt hx6
  have hB3 := hB3.ext hx6
  have hB5 := hB5.ext hx6
  refine hK3 _ _ ?_; try clear hK3
  refine CW.ret ⟨_, rfl, ?_⟩
  exact ⟨by rw [fndB, decide_eq_false hg19]; rfl, hE⟩
end Go.Proofs.YtmehkigmnpjcjaaDoor
