/- The program's Copy: what was copied is a tree. No condition. -/
import Derived.Test.YtffkmlkdlhkkmaaEg
set_option linter.unusedSimpArgs false
set_option linter.unusedVariables false
namespace Go.Proofs.Ytffkmlkdlhkkmaa
open Go.RowKit Go.Fw Go.Fu Go.Pl
def copA : Nat → List AE → List AE
  | _, [] => []
  | c, e :: r => { e with born := c } :: copA (c + 1) r
theorem copA_app : ∀ {c : Nat} {vs : List AE} {e : AE}, copA c (vs ++ [e]) = copA c vs ++ [{ e with born := c + vs.length }]
  | _, [], _ => rfl
  | c, x :: r, e => by
    rw [List.cons_append, copA, copA_app, copA, List.cons_append, List.length_cons, show c + 1 + r.length = c + (r.length + 1) by omega]
theorem copA_k : ∀ {c : Nat} {vs : List AE}, (copA c vs).map AE.k = vs.map AE.k
  | _, [] => rfl
  | c, x :: r => by rw [copA, List.map_cons, List.map_cons, copA_k]
theorem copA_mem : ∀ {c : Nat} {vs : List AE} {f : AE}, f ∈ copA c vs → ∃ e ∈ vs, f.k = e.k ∧ c ≤ f.born ∧ f.born < c + vs.length
  | _, [], _, h => by cases h
  | c, x :: r, f, h => by
    rcases List.mem_cons.1 h with rfl | h
    · exact ⟨x, by simp, rfl, Nat.le_refl _, by rw [List.length_cons]; show c < _; omega⟩
    · obtain ⟨e, he, h1, h2, h3⟩ := copA_mem h
      exact ⟨e, by simp [he], h1, by omega, by rw [List.length_cons]; omega⟩
theorem copA_born : ∀ {c : Nat} {vs : List AE}, ((copA c vs).map AE.born).Nodup
  | _, [] => List.nodup_nil
  | c, x :: r => by
    rw [copA, List.map_cons, List.nodup_cons]
    refine ⟨fun h => ?_, copA_born⟩
    obtain ⟨f, hf, he⟩ := List.mem_map.1 h
    obtain ⟨_, _, _, h4, _⟩ := copA_mem hf
    rw [he] at h4
    exact absurd h4 (by show ¬ c + 1 ≤ c; omega)
theorem ae_inj {l : List AE} (h : (l.map AE.k).Nodup) {x y : AE} (hx : x ∈ l) (hy : y ∈ l) (he : x.k = y.k) : x = y := by
  obtain ⟨i, hi⟩ := List.mem_iff_getElem?.1 hx
  obtain ⟨j, hj⟩ := List.mem_iff_getElem?.1 hy
  have h1 : (l.map AE.k)[i]? = some x.k := by simp [hi]
  have h2 : (l.map AE.k)[j]? = some x.k := by simp [hj, he]
  have hlt := (List.getElem?_eq_some_iff.1 h1).1
  have e := (List.getElem?_inj hlt h).1 (h1.trans h2.symm)
  subst e
  exact Option.some.inj (hi.symm.trans hj)
theorem copA_new {l vs : List AE} {e : AE} {c : Nat} (h : (l.map AE.k).Nodup) (hs : ∀ x ∈ vs, x ∈ l) (he : e ∈ l) (hn : e ∉ vs) : mfind AE.k e.k (copA c vs) 0 = none := by
  cases hf : mfind AE.k e.k (copA c vs) 0 with
  | none => rfl
  | some p =>
    obtain ⟨_, hj, hk⟩ := mfind_some hf
    obtain ⟨x, hx, h1, _⟩ := copA_mem (List.mem_of_getElem? hj)
    exact absurd ((ae_inj h (hs x hx) he (h1.symm.trans hk)) ▸ hx) hn
/-- The copy of an element. -/
def nD (D : List (Nat × Nn)) (c : Nat) : Nn := ((D.find? fun p => decide (p.1 = c)).map fun p => p.2).getD ⟨El.root, 0, .slice none 0 0, .slice none 0 0⟩
theorem nD_mem {D : List (Nat × Nn)} (hn : (D.map (·.1)).Nodup) {p : Nat × Nn} (hp : p ∈ D) : nD D p.1 = p.2 := by
  induction D with
  | nil => cases hp
  | cons q r ih =>
    have hn' := List.nodup_cons.1 hn
    unfold nD
    rw [List.find?_cons]
    by_cases h : q.1 = p.1
    · rcases List.mem_cons.1 hp with rfl | hp
      · simp
      · exact absurd (List.mem_map.2 ⟨p, hp, h.symm⟩) hn'.1
    · rw [decide_eq_false h]
      rcases List.mem_cons.1 hp with rfl | hp
      · exact absurd rfl h
      · exact ih hn'.2 hp
def nsD (n : Nat) (D : List (Nat × Nn)) : List Nn := (List.range n).map (nD D)
theorem nsD_at {n i : Nat} {D : List (Nat × Nn)} : (nsD n D)[i]? = if i < n then some (nD D i) else none := by
  rw [nsD, List.getElem?_map]
  split
  · rw [List.getElem?_range (by assumption)]; rfl
  · rw [List.getElem?_eq_none_iff.2 (by simp; omega)]; rfl
theorem nsD_mem {n : Nat} {D : List (Nat × Nn)} (hn : (D.map (·.1)).Nodup) (hcov : ∀ i, (∃ p ∈ D, p.1 = i) ↔ i < n) {x : Nn} (hx : x ∈ nsD n D) : ∃ p ∈ D, p.2 = x := by
  obtain ⟨i, hi, rfl⟩ := List.mem_map.1 hx
  obtain ⟨p, hp, rfl⟩ := (hcov i).2 (List.mem_range.1 hi)
  exact ⟨p, hp, (nD_mem hn hp).symm⟩
theorem info_fnC : ∃ i : TypeInfo, Try.prog.info? TCf = some i ∧ i.zero = some Value.nilFunc ∧ i.size = 1 := by
  have h : (Try.prog.info? TCf).map (fun i => (i.zero, i.size)) = some (some Value.nilFunc, 1) := by kernel_rfl
  obtain ⟨i, hi, h⟩ := Option.map_eq_some_iff.1 h
  injection h with h1 h2
  exact ⟨i, hi, h1, h2⟩
/-- What was copied is a tree. -/
theorem CpAt.ftAt {w0 w w' : World} {ns : List Nn} {g gf gt gc g2 rb2 gr ra2 n2 ra rb : Nat} {ad : List Dig} {D : List (Nat × Nn)} (h : CpAt w0 w ns g gf gt gc g2 rb2 gr ra2 n2 D) (hT : FtAt w0 g rb ra ad ns) (hG : Fu.Good (Fw.els ns)) (hcov : ∀ i, (∃ p ∈ D, p.1 = i) ↔ i < ns.length)
    (hc : Chg (fun k => k = g2) w w') (hb : Blk w' g2 TF (treeC (gD D 0) rb2 ra2 (liveN ns))) (hadd : ∃ cl l, MapAt w ra2 AE.me l cl ∧ (∀ e ∈ l, e.born < cl) ∧ (l.map AE.born).Nodup ∧ (l.map AE.k).Nodup ∧ ∀ d, d ∈ l.map AE.k ↔ d ∈ ad) (hne : rb2 ≠ ra2) :
    FtAt w' g2 rb2 ra2 ad (nsD ns.length D) ∧ Fw.els (nsD ns.length D) = Fw.els ns := by
  have hat : ∀ {i : Nat} {x : Nn}, (nsD ns.length D)[i]? = some x → (i, x) ∈ D := fun {i x} hx => by
    rw [nsD_at] at hx
    split at hx
    · rename_i hi
      obtain ⟨p, hp, hpi⟩ := (hcov i).2 hi
      injection hx with hx
      have := nD_mem h.nodup hp
      rw [hpi, hx] at this
      obtain ⟨p1, p2⟩ := p
      dsimp only at hpi this
      subst hpi; subst this; exact hp
    · cases hx
  have hg : ∀ c, c < ns.length → gOf (nsD ns.length D) c = gD D c := fun c hc => by
    obtain ⟨p, hp, hpi⟩ := (hcov c).2 hc
    subst hpi
    have h1 := nD_mem h.nodup hp
    rw [gOf_at (x := p.2) (by rw [nsD_at, if_pos hc, h1]), gD_mem h.nodup hp]
  have hpos : 0 < ns.length := by have := hG.pos; rw [List.length_map] at this; exact this
  have hlen : (nsD ns.length D).length = ns.length := by simp [nsD]
  have hels : Fw.els (nsD ns.length D) = Fw.els ns := by
    refine List.ext_getElem? fun i => ?_
    rw [List.getElem?_map, List.getElem?_map, nsD_at]
    split
    · rename_i hi
      obtain ⟨p, hp, rfl⟩ := (hcov i).2 hi
      obtain ⟨z, hz, he, _⟩ := h.node p hp
      rw [nD_mem h.nodup hp, hz, Option.map_some, Option.map_some, he]
    · rename_i hi
      rw [List.getElem?_eq_none_iff.2 (by omega)]
  have hdn : ∀ {i : Nat} {x : Nn}, (i, x) ∈ D → ∀ (s : Bool) (c : Nat), c ∈ side x.el s → c < ns.length := fun {i x} hx s c hc => by
    obtain ⟨z, hz, he, _⟩ := h.node _ hx
    have hze : (Fw.els ns)[i]? = some x.el := by rw [List.getElem?_map, hz]; show some z.el = _; rw [← he]
    have := (hG.down i x.el hze c (by cases s; exact .inr hc; exact .inl hc)).2
    rwa [List.length_map] at this
  have hDl : D.length = ns.length := by
    have h1 : (D.map (·.1)).Perm (List.range ns.length) := (List.perm_ext_iff_of_nodup h.nodup List.nodup_range).2 fun i => by
      rw [List.mem_range, ← hcov i, List.mem_map]
    have := h1.length_eq
    simpa using this
  have hkne : ∀ {i : Nat} {x : Nn}, (i, x) ∈ D → x.g ≠ g2 ∧ ∀ s k, (x.sv s).ownBlock = some k → k ≠ g2 := fun {i x} hx => by
    refine ⟨?_, fun s k hk => ?_⟩
    · rintro rfl
      obtain ⟨_, _, _, hB⟩ := h.node _ hx
      exact absurd (blk_kind hB h.tree) (by decide)
    · rintro rfl
      obtain ⟨_, _, h1⟩ := (h.kids _ hx s).kind hk
      exact absurd (blk_kind h1 h.tree) (by decide)
  refine ⟨?_, hels⟩
  exact {
    blk := by
      rw [hg 0 hpos]
      have : liveN (nsD ns.length D) = liveN ns := by unfold liveN; rw [hels]
      rw [this]; exact hb
    node := fun i x hx => by
      have hm := hat hx
      obtain ⟨z, hz, he, hB⟩ := h.node _ hm
      have hB := hB.chg hc (fun e => (hkne hm).1 e)
      exact hB
    kids := fun i x s hx => by
      have hm := hat hx
      have hO := (h.kids _ hm s).chg hc (fun k hk e => (hkne hm).2 s k hk e)
      have e : (side x.el s).map (gD D) = (side x.el s).map (gOf (nsD ns.length D)) := List.map_congr_left fun c hc => (hg c (hdn hm s c hc)).symm
      rw [← e]; exact hO
    inj := fun i j x y hx hy e => h.inj _ (hat hx) _ (hat hy) e
    sep := fun i j x y s t k hx hy h1 h2 => h.sep _ (hat hx) _ (hat hy) s t k h1 h2
    by_ := by
      refine ⟨_, _, h.map.chg hc (fun e => ?_), fun e he => ?_, ?_, ?_, fun e he => ?_, fun i x hi hx => ?_⟩
      · have hm := h.map
        rw [e] at hm
        exact blk_map h.tree hm
      · have h1 : e.born ∈ (entD D).map BE.born := List.mem_map.2 ⟨e, he, rfl⟩
        rw [entD_born, List.mem_range] at h1
        exact h1
      · rw [entD_born]; exact List.nodup_range
      · rw [hlen, entD_length, ← hDl]
        have h1 : D.countP (fun p => decide (p.1 = 0)) = 1 := by
          obtain ⟨p, hp, hp0⟩ := (hcov 0).2 hpos
          have h2 : (D.map (·.1)).count 0 = 1 := (List.Nodup.count (a := 0) h.nodup).trans (if_pos (List.mem_map.2 ⟨p, hp, hp0⟩))
          rw [List.count_eq_countP, List.countP_map] at h2
          rw [← h2]; rfl
        have h3 := List.length_eq_countP_add_countP (l := D) (fun p => decide (p.1 = 0))
        have h4 : D.countP (fun p => decide (p.1 ≠ 0)) = D.countP (fun p => decide (¬ decide (p.1 = 0) = true)) := List.countP_congr fun q _ => by simp
        rw [← List.countP_eq_length_filter, h4]
        omega
      · obtain ⟨p, hp, h0, h1, h2⟩ := entD_mem he
        have hlt := (hcov p.1).1 ⟨p, hp, rfl⟩
        exact ⟨p.1, p.2, by omega, by rw [nsD_at, if_pos hlt, nD_mem h.nodup hp], h1, h2⟩
      · exact entD_has (hat hx) (by show i ≠ 0; omega)
    added := by
      obtain ⟨cl, l, hM, hr⟩ := hadd
      exact ⟨cl, l, hM.chg hc (fun e => by have h1 := h.tree; unfold Blk at h1; unfold MapAt at hM; rw [e, h1] at hM; cases hM), hr⟩
    ne := hne }
end Go.Proofs.Ytffkmlkdlhkkmaa
