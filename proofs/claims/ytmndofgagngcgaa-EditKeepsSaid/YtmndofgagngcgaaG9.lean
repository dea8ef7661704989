/- Several texts as one: Eg, Ek, El. -/
import Derived.Test.YtmndofgagngcgaaQx
set_option linter.unusedSimpArgs false
set_option linter.unusedVariables false
/- The program's Copy: every element's copy. No condition. -/
namespace Go.Proofs.Ytmndofgagngcgaa
open Go.RowKit Go.Fw Go.Fu Go.Pl
theorem fcopy1_any (g rb ra : Nat) (ad : List Dig) (ns : List Nn) (gf gt gc g2 rb2 gr ra2 n2 : Nat) (wB : World) (hT : FtAt wB g rb ra ad ns) (hG : Fu.Good (Fw.els ns)) (hn : ns.length ≤ 400001) : ∀ i, i < ns.length → CpOk wB ns g gf gt gc g2 rb2 gr ra2 n2 i := by
  have hel : (Fw.els ns).length = ns.length := List.length_map _
  intro i hi
  refine down_ind hG.down (P := CpOk wB ns g gf gt gc g2 rb2 gr ra2 n2) (fun i x hx IH => ?_) i (by omega)
  have hil := (List.getElem?_eq_some_iff.1 hx).1
  obtain ⟨z, hz⟩ : ∃ z, ns[i]? = some z := ⟨_, List.getElem?_eq_getElem (by omega)⟩
  have hze : (Fw.els ns)[i]? = some z.el := by rw [List.getElem?_map, hz]; rfl
  rw [hze] at hx
  obtain rfl := Option.some.inj hx
  intro w D hD hno
  exact fcopy1_step g rb ra ad ns gf gt gc g2 rb2 gr ra2 n2 i z wB w D hT hG hn hz (fun c hc => IH c hc (hG.down i z.el hze c hc).2) hD hno
end Go.Proofs.Ytmndofgagngcgaa

/- The program's Copy: what was copied is a tree. No condition. -/
namespace Go.Proofs.Ytmndofgagngcgaa
open Go.RowKit Go.Fw Go.Fu Go.Pl
def copA : Nat → List AE → List AE
  | _, [] => []
  | c, e :: r => { e with born := c } :: copA (c + 1) r
theorem copA_app : ∀ {c : Nat} {vs : List AE} {e : AE}, copA c (vs ++ [e]) = copA c vs ++ [{ e with born := c + vs.length }]
  | _, [], _ => rfl
  | c, x :: r, e => by
    rw [List.cons_append, copA, copA_app, copA, List.cons_append, List.length_cons, show c + 1 + r.length = c + (r.length + 1) by omega]
theorem copA_k : ∀ {c : Nat} {vs : List AE}, (copA c vs).map AE.k = vs.map AE.k
  | _, [] => rfl
  | c, x :: r => by rw [copA, List.map_cons, List.map_cons, copA_k]
theorem copA_mem : ∀ {c : Nat} {vs : List AE} {f : AE}, f ∈ copA c vs → ∃ e ∈ vs, f.k = e.k ∧ c ≤ f.born ∧ f.born < c + vs.length
  | _, [], _, h => by cases h
  | c, x :: r, f, h => by
    rcases List.mem_cons.1 h with rfl | h
    · exact ⟨x, by simp, rfl, Nat.le_refl _, by rw [List.length_cons]; show c < _; omega⟩
    · obtain ⟨e, he, h1, h2, h3⟩ := copA_mem h
      exact ⟨e, by simp [he], h1, by omega, by rw [List.length_cons]; omega⟩
theorem copA_born : ∀ {c : Nat} {vs : List AE}, ((copA c vs).map AE.born).Nodup
  | _, [] => List.nodup_nil
  | c, x :: r => by
    rw [copA, List.map_cons, List.nodup_cons]
    refine ⟨fun h => ?_, copA_born⟩
    obtain ⟨f, hf, he⟩ := List.mem_map.1 h
    obtain ⟨_, _, _, h4, _⟩ := copA_mem hf
    rw [he] at h4
    exact absurd h4 (by show ¬ c + 1 ≤ c; omega)
theorem ae_inj {l : List AE} (h : (l.map AE.k).Nodup) {x y : AE} (hx : x ∈ l) (hy : y ∈ l) (he : x.k = y.k) : x = y := by
  obtain ⟨i, hi⟩ := List.mem_iff_getElem?.1 hx
  obtain ⟨j, hj⟩ := List.mem_iff_getElem?.1 hy
  have h1 : (l.map AE.k)[i]? = some x.k := by simp [hi]
  have h2 : (l.map AE.k)[j]? = some x.k := by simp [hj, he]
  have hlt := (List.getElem?_eq_some_iff.1 h1).1
  have e := (List.getElem?_inj hlt h).1 (h1.trans h2.symm)
  subst e
  exact Option.some.inj (hi.symm.trans hj)
theorem copA_new {l vs : List AE} {e : AE} {c : Nat} (h : (l.map AE.k).Nodup) (hs : ∀ x ∈ vs, x ∈ l) (he : e ∈ l) (hn : e ∉ vs) : mfind AE.k e.k (copA c vs) 0 = none := by
  cases hf : mfind AE.k e.k (copA c vs) 0 with
  | none => rfl
  | some p =>
    obtain ⟨_, hj, hk⟩ := mfind_some hf
    obtain ⟨x, hx, h1, _⟩ := copA_mem (List.mem_of_getElem? hj)
    exact absurd ((ae_inj h (hs x hx) he (h1.symm.trans hk)) ▸ hx) hn
/-- The copy of an element. -/
def nD (D : List (Nat × Nn)) (c : Nat) : Nn := ((D.find? fun p => decide (p.1 = c)).map fun p => p.2).getD ⟨El.root, 0, .slice none 0 0, .slice none 0 0⟩
theorem nD_mem {D : List (Nat × Nn)} (hn : (D.map (·.1)).Nodup) {p : Nat × Nn} (hp : p ∈ D) : nD D p.1 = p.2 := by
  induction D with
  | nil => cases hp
  | cons q r ih =>
    have hn' := List.nodup_cons.1 hn
    unfold nD
    rw [List.find?_cons]
    by_cases h : q.1 = p.1
    · rcases List.mem_cons.1 hp with rfl | hp
      · simp
      · exact absurd (List.mem_map.2 ⟨p, hp, h.symm⟩) hn'.1
    · rw [decide_eq_false h]
      rcases List.mem_cons.1 hp with rfl | hp
      · exact absurd rfl h
      · exact ih hn'.2 hp
def nsD (n : Nat) (D : List (Nat × Nn)) : List Nn := (List.range n).map (nD D)
theorem nsD_at {n i : Nat} {D : List (Nat × Nn)} : (nsD n D)[i]? = if i < n then some (nD D i) else none := by
  rw [nsD, List.getElem?_map]
  split
  · rw [List.getElem?_range (by assumption)]; rfl
  · rw [List.getElem?_eq_none_iff.2 (by simp; omega)]; rfl
theorem nsD_mem {n : Nat} {D : List (Nat × Nn)} (hn : (D.map (·.1)).Nodup) (hcov : ∀ i, (∃ p ∈ D, p.1 = i) ↔ i < n) {x : Nn} (hx : x ∈ nsD n D) : ∃ p ∈ D, p.2 = x := by
  obtain ⟨i, hi, rfl⟩ := List.mem_map.1 hx
  obtain ⟨p, hp, rfl⟩ := (hcov i).2 (List.mem_range.1 hi)
  exact ⟨p, hp, (nD_mem hn hp).symm⟩
theorem info_fnC : ∃ i : TypeInfo, Try.prog.info? TCf = some i ∧ i.zero = some Value.nilFunc ∧ i.size = 1 := by
  have h : (Try.prog.info? TCf).map (fun i => (i.zero, i.size)) = some (some Value.nilFunc, 1) := by kernel_rfl
  obtain ⟨i, hi, h⟩ := Option.map_eq_some_iff.1 h
  injection h with h1 h2
  exact ⟨i, hi, h1, h2⟩
/-- What was copied is a tree. -/
theorem CpAt.ftAt {w0 w w' : World} {ns : List Nn} {g gf gt gc g2 rb2 gr ra2 n2 ra rb : Nat} {ad : List Dig} {D : List (Nat × Nn)} (h : CpAt w0 w ns g gf gt gc g2 rb2 gr ra2 n2 D) (hT : FtAt w0 g rb ra ad ns) (hG : Fu.Good (Fw.els ns)) (hcov : ∀ i, (∃ p ∈ D, p.1 = i) ↔ i < ns.length)
    (hc : Chg (fun k => k = g2) w w') (hb : Blk w' g2 TF (treeC (gD D 0) rb2 ra2 (liveN ns))) (hadd : ∃ cl l, MapAt w ra2 AE.me l cl ∧ (∀ e ∈ l, e.born < cl) ∧ (l.map AE.born).Nodup ∧ (l.map AE.k).Nodup ∧ ∀ d, d ∈ l.map AE.k ↔ d ∈ ad) (hne : rb2 ≠ ra2) :
    FtAt w' g2 rb2 ra2 ad (nsD ns.length D) ∧ Fw.els (nsD ns.length D) = Fw.els ns := by
  have hat : ∀ {i : Nat} {x : Nn}, (nsD ns.length D)[i]? = some x → (i, x) ∈ D := fun {i x} hx => by
    rw [nsD_at] at hx
    split at hx
    · rename_i hi
      obtain ⟨p, hp, hpi⟩ := (hcov i).2 hi
      injection hx with hx
      have := nD_mem h.nodup hp
      rw [hpi, hx] at this
      obtain ⟨p1, p2⟩ := p
      dsimp only at hpi this
      subst hpi; subst this; exact hp
    · cases hx
  have hg : ∀ c, c < ns.length → gOf (nsD ns.length D) c = gD D c := fun c hc => by
    obtain ⟨p, hp, hpi⟩ := (hcov c).2 hc
    subst hpi
    have h1 := nD_mem h.nodup hp
    rw [gOf_at (x := p.2) (by rw [nsD_at, if_pos hc, h1]), gD_mem h.nodup hp]
  have hpos : 0 < ns.length := by have := hG.pos; rw [List.length_map] at this; exact this
  have hlen : (nsD ns.length D).length = ns.length := by simp [nsD]
  have hels : Fw.els (nsD ns.length D) = Fw.els ns := by
    refine List.ext_getElem? fun i => ?_
    rw [List.getElem?_map, List.getElem?_map, nsD_at]
    split
    · rename_i hi
      obtain ⟨p, hp, rfl⟩ := (hcov i).2 hi
      obtain ⟨z, hz, he, _⟩ := h.node p hp
      rw [nD_mem h.nodup hp, hz, Option.map_some, Option.map_some, he]
    · rename_i hi
      rw [List.getElem?_eq_none_iff.2 (by omega)]
  have hdn : ∀ {i : Nat} {x : Nn}, (i, x) ∈ D → ∀ (s : Bool) (c : Nat), c ∈ side x.el s → c < ns.length := fun {i x} hx s c hc => by
    obtain ⟨z, hz, he, _⟩ := h.node _ hx
    have hze : (Fw.els ns)[i]? = some x.el := by rw [List.getElem?_map, hz]; show some z.el = _; rw [← he]
    have := (hG.down i x.el hze c (by cases s; exact .inr hc; exact .inl hc)).2
    rwa [List.length_map] at this
  have hDl : D.length = ns.length := by
    have h1 : (D.map (·.1)).Perm (List.range ns.length) := (List.perm_ext_iff_of_nodup h.nodup List.nodup_range).2 fun i => by
      rw [List.mem_range, ← hcov i, List.mem_map]
    have := h1.length_eq
    simpa using this
  have hkne : ∀ {i : Nat} {x : Nn}, (i, x) ∈ D → x.g ≠ g2 ∧ ∀ s k, (x.sv s).ownBlock = some k → k ≠ g2 := fun {i x} hx => by
    refine ⟨?_, fun s k hk => ?_⟩
    · rintro rfl
      obtain ⟨_, _, _, hB⟩ := h.node _ hx
      exact absurd (blk_kind hB h.tree) (by decide)
    · rintro rfl
      obtain ⟨_, _, h1⟩ := (h.kids _ hx s).kind hk
      exact absurd (blk_kind h1 h.tree) (by decide)
  refine ⟨?_, hels⟩
  exact {
    blk := by
      rw [hg 0 hpos]
      have : liveN (nsD ns.length D) = liveN ns := by unfold liveN; rw [hels]
      rw [this]; exact hb
    node := fun i x hx => by
      have hm := hat hx
      obtain ⟨z, hz, he, hB⟩ := h.node _ hm
      have hB := hB.chg hc (fun e => (hkne hm).1 e)
      exact hB
    kids := fun i x s hx => by
      have hm := hat hx
      have hO := (h.kids _ hm s).chg hc (fun k hk e => (hkne hm).2 s k hk e)
      have e : (side x.el s).map (gD D) = (side x.el s).map (gOf (nsD ns.length D)) := List.map_congr_left fun c hc => (hg c (hdn hm s c hc)).symm
      rw [← e]; exact hO
    inj := fun i j x y hx hy e => h.inj _ (hat hx) _ (hat hy) e
    sep := fun i j x y s t k hx hy h1 h2 => h.sep _ (hat hx) _ (hat hy) s t k h1 h2
    by_ := by
      refine ⟨_, _, h.map.chg hc (fun e => ?_), fun e he => ?_, ?_, ?_, fun e he => ?_, fun i x hi hx => ?_⟩
      · have hm := h.map
        rw [e] at hm
        exact blk_map h.tree hm
      · have h1 : e.born ∈ (entD D).map BE.born := List.mem_map.2 ⟨e, he, rfl⟩
        rw [entD_born, List.mem_range] at h1
        exact h1
      · rw [entD_born]; exact List.nodup_range
      · rw [hlen, entD_length, ← hDl]
        have h1 : D.countP (fun p => decide (p.1 = 0)) = 1 := by
          obtain ⟨p, hp, hp0⟩ := (hcov 0).2 hpos
          have h2 : (D.map (·.1)).count 0 = 1 := (List.Nodup.count (a := 0) h.nodup).trans (if_pos (List.mem_map.2 ⟨p, hp, hp0⟩))
          rw [List.count_eq_countP, List.countP_map] at h2
          rw [← h2]; rfl
        have h3 := List.length_eq_countP_add_countP (l := D) (fun p => decide (p.1 = 0))
        have h4 : D.countP (fun p => decide (p.1 ≠ 0)) = D.countP (fun p => decide (¬ decide (p.1 = 0) = true)) := List.countP_congr fun q _ => by simp
        rw [← List.countP_eq_length_filter, h4]
        omega
      · obtain ⟨p, hp, h0, h1, h2⟩ := entD_mem he
        have hlt := (hcov p.1).1 ⟨p, hp, rfl⟩
        exact ⟨p.1, p.2, by omega, by rw [nsD_at, if_pos hlt, nD_mem h.nodup hp], h1, h2⟩
      · exact entD_has (hat hx) (by show i ≠ 0; omega)
    added := by
      obtain ⟨cl, l, hM, hr⟩ := hadd
      exact ⟨cl, l, hM.chg hc (fun e => by have h1 := h.tree; unfold Blk at h1; unfold MapAt at hM; rw [e, h1] at hM; cases hM), hr⟩
    ne := hne }
end Go.Proofs.Ytmndofgagngcgaa

/- The program's Copy, walked. No condition. -/
namespace Go.Proofs.Ytmndofgagngcgaa
open Go.RowKit Go.Fw Go.Fu Go.Pl

theorem fnew0_any (w : World) : Calls Try.prog 26 #[] w (Ret fun v w' => ∃ g rb ra gn, v = .pointer (some ⟨g, 0, none⟩) ∧ w.heap.size ≤ g ∧ w.heap.size ≤ rb ∧ w.heap.size ≤ ra ∧ rb < ra ∧ Blk w' g TF (treeC gn rb ra 0) ∧ MapAt w' rb BE.me ([] : List BE) 0 ∧ MapAt w' ra AE.me ([] : List AE) 0 ∧ Ext w w') := by
  refine calls_of_CW 7 [0] [] Try.func26 rfl rfl rfl (by simp) args0 ?_
  have hE : Ext w w := Chg.refl
  refine CW.seq fun K1 hK1 => ?_
  refine CW.region ?_
  refine WL.val (Y.assign rfl) (by decide) ?_
  refine WL.nil ?_
  refine hK1 _ _ ?_; try clear hK1 K1
  refine CW.seq fun K2 hK2 => ?_
  refine CW.region ?_
  refine WL.val (Y.build rfl (build_rootN _)) (by decide) ?_
  refine WL.box rfl rfl (by decide) fun g2 w1 hx1 hg2 hB2 => ?_
  have hlt2 := hB2.lt; have hz1 := hx1.size
  have hM2 := hB2.mem; have hz1 := hx1.size; have hE := hE.thenExt hx1
  refine WL.st (St.makeMap) (by decide) fun v3 w2 hR2 => ?_
  obtain ⟨rb, rfl, hrb, hMb, hx2⟩ := hR2
  have hz2 := hx2.size
  have hE := hE.thenExt hx2
  have hB2 := hB2.ext hx2
  have hlb := (hMb BE BE.me).lt
  refine WL.st (St.makeMap) (by decide) fun v4 w3 hR3 => ?_
  obtain ⟨ra, rfl, hra, hMa, hx3⟩ := hR3
  have hz3 := hx3.size
  have hE := hE.thenExt hx3
  have hB2 := hB2.ext hx3
  refine WL.val (Y.build rfl (build_treeF _ _ _ _)) (by decide) ?_
  refine WL.box rfl rfl (by decide) fun g6 w4 hx4 hg6 hB6 => ?_
  have hlt6 := hB6.lt; have hz4 := hx4.size
  have hM6 := hB6.mem; have hz4 := hx4.size; have hE := hE.thenExt hx4; have hB2 := hB2.ext hx4
  refine WL.val (Y.assign rfl) (by decide) ?_
  refine WL.nil ?_
  refine hK2 _ _ ?_; try clear hK2 K2
  refine CW.ret ⟨_, rfl, ?_⟩
  exact ⟨_, rb, ra, _, rfl, by omega, by omega, by omega, by omega, hB6, ((hMb BE BE.me).ext hx3).ext hx4, (hMa AE AE.me).ext hx4, hE⟩
set_option maxRecDepth 100000 in
set_option maxHeartbeats 4000000 in
theorem fcopy_any (g rb ra : Nat) (ad : List Dig) (ns : List Nn) (w : World) (hT : FtAt w g rb ra ad ns) (hG : Fu.Good (Fw.els ns)) (hn : ns.length ≤ 400001) : Calls Try.prog 22 #[.pointer (some ⟨g, 0, none⟩)] w (Ret fun v w' => ∃ g' rb' ra' ns', v = .pointer (some ⟨g', 0, none⟩) ∧ FtAt w' g' rb' ra' ad ns' ∧ Fw.els ns' = Fw.els ns ∧ (∀ q, Fp g' rb' ra' ns' q → w.heap.size ≤ q) ∧ Ext w w') := by
  obtain ⟨cl, l, hMp, hold, hborn, hkeys, hmem⟩ := hT.added
  obtain ⟨ifn, hifn, hzfn, hsfn⟩ := info_fnC
  have hraw := hMp.lt
  have hel : (Fw.els ns).length = ns.length := List.length_map _
  have hT0 := hT
  refine calls_of_CW 45 [2] [(0, .pointer (some ⟨g, 0, none⟩))] Try.func22 rfl rfl rfl (by simp) args1 ?_
  have hE : Ext w w := Chg.refl
  refine CW.seq fun K1 hK1 => ?_
  refine CW.region ?_
  refine WL.box rfl rfl (by decide) fun g1 w1 hx1 hg1 hB1 => ?_
  have hlt1 := hB1.lt; have hz1 := hx1.size
  have hM1 := hB1.mem; have hz1 := hx1.size; have hE := hE.thenExt hx1
  refine WL.val (Y.assign rfl) (by decide) ?_
  refine WL.nil ?_
  refine hK1 _ _ ?_; try clear hK1 K1
  refine CW.seq fun K2 hK2 => ?_
  refine CW.seq fun K3 hK3 => ?_
  refine CW.region ?_
  refine WL.val (Y.load1 Try.underlying23 rfl hB1.mem.cell0 rfl) (by decide) ?_
  refine WL.call Try.func37 rfl rfl rfl (fmade_any g rb ra ad ns _ (hT.ext hE)) (by simp) ?_; rintro v w2 ⟨rfl, hx2⟩; have hz2 := hx2.size; have hE := hE.thenExt hx2; have hB1 := hB1.ext hx2
  refine WL.val (Y.not rfl) (by decide) ?_
  refine WL.nil ?_
  refine hK3 _ _ ?_; try clear hK3 K3
  first | refine CW.condD rfl (fun ht4 => ?_) (fun ht4 => ?_) | refine CW.condND rfl (fun ht4 => ?_) (fun ht4 => ?_) | refine CW.condN rfl (fun ht4 => ?_) (fun ht4 => ?_) | refine CW.cond rfl (fun ht4 => ?_) (fun ht4 => ?_)
  · -- then
    refine CW.seq fun K5 hK5 => ?_
    refine CW.region ?_
    refine WL.val (Y.assign rfl) (by decide) ?_
    refine WL.nil ?_
    refine hK5 _ _ ?_; try clear hK5 K5
    refine CW.ret ⟨_, rfl, ?_⟩
    exact absurd (show true = false by assumption) (by decide)
  refine CW.skip ?_
  refine hK2 _ _ ?_; try clear hK2 K2
  refine CW.seq fun K6 hK6 => ?_
  refine CW.region ?_
  refine WL.call Try.func26 rfl rfl rfl (fnew0_any _) (by simp) ?_; rintro v10 w3 hR3
  obtain ⟨g2, rb2, ra2, gr, rfl, hg2, hrb2, hra2, hne2, hB2, hMb, hMa, hx3⟩ := hR3
  have hz3 := hx3.size
  have hE := hE.thenExt hx3
  have hB1 := hB1.ext hx3
  have hlt2 := hB2.lt
  have hltb := hMb.lt
  have hlta := hMa.lt
  have hgb : g2 ≠ rb2 := by rintro rfl; exact blk_map hB2 hMb
  have hga : g2 ≠ ra2 := by rintro rfl; exact blk_map hB2 hMa
  refine WL.allocStore1 (by kernel_rfl) rfl (by simp) rfl rfl (by decide) fun g3 w4 hx4 hg3 hB3 => ?_
  have hlt3 := hB3.lt; have hz4 := hx4.size
  have hM3 := hB3.mem; have hz4 := hx4.size; have hE := hE.thenExt hx4; have hB1 := hB1.ext hx4
  refine WL.nil ?_
  refine hK6 _ _ ?_; try clear hK6 K6
  refine CW.seq fun K7 hK7 => ?_
  refine CW.head 7 (by kernel_rfl) (by kernel_rfl) fun w5 hx5 => ?_
  skip; have hz5 := hx5.size; have hE := hE.thenExt hx5; have hB1 := hB1.ext hx5; have hB3 := hB3.ext hx5
  refine HL.val (Y.load1 Try.underlying23 rfl hB3.mem.cell0 rfl) (by decide) ?_
  refine HL.val (Y.load1 Try.underlying23 rfl hB1.mem.cell0 rfl) (by decide) ?_
  refine HL.val (Y.nilCheck rfl) (by decide) ?_
  refine HL.val (Y.fieldAddr fo_fugueTree3 rfl) (by decide) ?_
  refine HL.val (Y.load1 Try.underlying3 rfl (hT.ext hE).blk.mem.fugueTree3 rfl) (by decide) ?_
  refine HL.val (Y.nilCheck rfl) (by decide) ?_
  refine HL.val (Y.fieldAddr fo_fugueTree3 rfl) (by decide) ?_
  refine HL.nil ?_
  refine WL.store (g := g2) (pre := [.pointer (some ⟨gr, 0, none⟩), .map (some rb2), .map (some ra2)]) (old := [.int .i64 ((0 : Nat) : Int)]) (post := []) (new := [.int .i64 (liveN ns : Int)]) rfl rfl rfl rfl (by kernel_rfl) ((hB2.ext hx4).ext hx5) (by first | rfl | (simp [digC_length, opC_length]; done) | (simp only [digC_length, opC_length]; omega)) (one1 rfl) (fun w6 hc6 hB6_ => ?_)
  have hz6 := hc6.size; have hE := hE.step hc6 (fun k h => by omega); have hB1 := hB1.chg hc6 (fun h => by omega); have hB3 := hB3.chg hc6 (fun h => by omega)
  have hB2 : Blk w6 g2 TF (treeC gr rb2 ra2 (liveN ns)) := hB6_
  have hMb := ((hMb.ext hx4).ext hx5).chg hc6 (fun h => hgb h.symm)
  have hMa := ((hMa.ext hx4).ext hx5).chg hc6 (fun h => hga h.symm)
  refine WL.nil ?_
  refine hK7 _ _ ?_; try clear hK7 K7
  refine CW.seq fun K8 hK8 => ?_
  refine CW.seq fun K9 hK9 => ?_
  refine CW.region ?_
  refine WL.val (Y.load1 Try.underlying23 rfl hB1.mem.cell0 rfl) (by decide) ?_
  refine WL.val (Y.nilCheck rfl) (by decide) ?_
  refine WL.val (Y.fieldAddr fo_fugueTree2 rfl) (by decide) ?_
  refine WL.val (Y.load1 Try.underlying44 rfl (hT.ext hE).blk.mem.fugueTree2 rfl) (by decide) ?_
  refine WL.st (St.range UMA rfl (hMp.ext hE) hold hborn) (by decide) fun v22 w7 hR7 => ?_
  obtain ⟨r22, rfl, hr22, hGo, hx7⟩ := hR7
  have hz7 := hx7.size
  have hE := hE.thenExt hx7
  have hB1 := hB1.ext hx7
  have hB3 := hB3.ext hx7
  have hB2 := hB2.ext hx7
  have hMb := hMb.ext hx7
  have hMa := hMa.ext hx7
  have hltr := hGo.lt
  refine WL.nil ?_
  refine hK9 _ _ ?_; try clear hK9 K9
  refine CW.block ?_
  refine CW.loop (X := List AE) (fun x => [(1, .pointer (some ⟨g1, 0, none⟩)), (3, .pointer (some ⟨g3, 0, none⟩)), (22, .pointer (some ⟨r22, 0, none⟩))]) (fun x w0 => Going w0 r22 ra AE.me l cl x ∧ Blk w0 g1 TPF [.pointer (some ⟨g, 0, none⟩)] ∧ Blk w0 g3 TPF [.pointer (some ⟨g2, 0, none⟩)] ∧ Blk w0 g2 TF (treeC gr rb2 ra2 (liveN ns)) ∧ MapAt w0 rb2 BE.me ([] : List BE) 0 ∧ MapAt w0 ra2 AE.me (copA 0 x) (0 + x.length) ∧ Ext w w0 ∧ w7.heap.size ≤ w0.heap.size) (fun x => l.length - x.length) [] (by repeat (first | exact Fr.le.nil | refine Fr.le.cons rfl ?_)) ⟨hGo, hB1, hB3, hB2, hMb, hMa, hE, Nat.le_refl _⟩ ?_
  intro x w8 hl8
  obtain ⟨hGo, hB1, hB3, hB2, hMb, hMa, hE, hz8⟩ := hl8
  have hltg := hGo.lt
  refine CW.seq fun K10 hK10 => ?_
  refine CW.region ?_
  refine WL.st (St.next rfl hGo) (by decide) fun v23 w9 hR9 => ?_
  obtain ⟨bt, rest, rfl, hc9, hcase⟩ := hR9
  have hz9 := hc9.size
  have hE := hE.step hc9 (fun k h => by omega)
  have hB1 := hB1.chg hc9 (fun h => by omega)
  have hB3 := hB3.chg hc9 (fun h => by omega)
  have hB2 := hB2.chg hc9 (fun h => by omega)
  have hMb := hMb.chg hc9 (fun h => by omega)
  have hMa := hMa.chg hc9 (fun h => by omega)
  refine WL.val (Y.extractT rfl) (by decide) ?_
  refine WL.nil ?_
  refine hK10 _ _ ?_; try clear hK10 K10
  refine CW.seq fun K11 hK11 => ?_
  first | refine CW.condD rfl (fun ht12 => ?_) (fun ht12 => ?_) | refine CW.condND rfl (fun ht12 => ?_) (fun ht12 => ?_) | refine CW.condN rfl (fun ht12 => ?_) (fun ht12 => ?_) | refine CW.cond rfl (fun ht12 => ?_) (fun ht12 => ?_)
  · -- then
    refine CW.skip ?_
    refine hK11 _ _ ?_; try clear hK11 K11
    obtain ⟨e, hel2, hev, hGo⟩ : ∃ e, e ∈ l ∧ e ∉ x ∧ Going w9 r22 ra AE.me l cl (x ++ [e]) := by
      rcases hcase with ⟨_, h⟩ | ⟨h, _⟩
      · exact h
      · rw [h] at ht12; cases ht12
    refine CW.block ?_
    refine CW.seq fun K13 hK13 => ?_
    refine CW.region ?_
    refine WL.val (Y.entry rfl hGo) (by decide) ?_
    refine WL.val (Y.extract rfl rfl) (by decide) ?_
    refine WL.val (Y.extract rfl rfl) (by decide) ?_
    refine as_apiDigest rfl (by simp) (by decide) fun g4 w10 hx10 hg4 hB4 => ?_
    have hlt4 := hB4.lt; have hz10 := hx10.size
    have hM4 := hB4.mem; have hz10 := hx10.size; have hE := hE.thenExt hx10; have hB1 := hB1.ext hx10; have hB3 := hB3.ext hx10
    refine WL.val (Y.assign rfl) (by decide) ?_
    refine WL.nil ?_
    refine hK13 _ _ ?_; try clear hK13 K13
    refine CW.head 6 (by kernel_rfl) (by kernel_rfl) fun w11 hx11 => ?_
    skip; have hz11 := hx11.size; have hE := hE.thenExt hx11; have hB1 := hB1.ext hx11; have hB3 := hB3.ext hx11; have hB4 := hB4.ext hx11
    refine HL.val (Y.load1 Try.underlying23 rfl hB3.mem.cell0 rfl) (by decide) ?_
    refine HL.val (Y.nilCheck rfl) (by decide) ?_
    refine HL.val (Y.fieldAddr fo_fugueTree2 rfl) (by decide) ?_
    refine HL.val (Y.load1 Try.underlying44 rfl ((hB2.ext hx10).ext hx11).mem.fugueTree2 rfl) (by decide) ?_
    refine HL.val (Y.load Try.underlying50 rfl hB4.mem (sz_apiDigest _) rfl) (by decide) ?_
    refine HL.val (Y.move rfl) (by decide) ?_
    refine HL.nil ?_
    refine WL.su (Su.mapNew (b := ({ e with born := 0 + x.length } : AE)) keyDig (fun _ => rfl) UMA rfl rfl rfl ((hMa.ext hx10).ext hx11) (copA_new hkeys (fun y hy => hGo.sub y (by simp [hy])) hel2 hev) rfl) fun w12 hR12 => ?_
    obtain ⟨hM12, hc12⟩ := hR12
    have hz12 := hc12.size
    have hE := hE.step hc12 (fun k h => by have h : k = ra2 := h; omega)
    have hfl := hGo.few
    rw [List.length_append, List.length_singleton] at hfl
    have hlg := hGo.lt
    refine WL.nil ?_
    refine ⟨x ++ [e], by show l.length - (x ++ [e]).length < l.length - x.length; rw [List.length_append, List.length_singleton]; omega, (by repeat (first | exact Fr.le.nil | refine Fr.le.cons rfl ?_)), ((hGo.ext hx10).ext hx11).chg hc12 (fun h => by omega) (fun h => by omega), hB1.chg hc12 (fun h => by omega), hB3.chg hc12 (fun h => by omega), ((hB2.ext hx10).ext hx11).chg hc12 (fun h => hga h), ((hMb.ext hx10).ext hx11).chg hc12 (fun h => by omega), ?_, hE, by omega⟩
    rw [copA_app, List.length_append, List.length_singleton, ← Nat.add_assoc]
    exact hM12
  refine CW.exit ?_
  refine hK8 _ _ ?_; try clear hK8 K8
  refine CW.seq fun K14 hK14 => ?_
  rcases hcase with ⟨h, _⟩ | ⟨_, hall, hGo⟩
  · rw [h] at ht12; cases ht12
  have hp := hGo.perm hall
  refine CW.region ?_
  refine WL.alloc (hifn) (hzfn) rfl (by decide) fun g6 w13 hx13 hg6 hB6 => ?_
  have hlt6 := hB6.lt; have hz13 := hx13.size
  have hM6 := hB6.mem; have hz13 := hx13.size; have hE := hE.thenExt hx13; have hB1 := hB1.ext hx13; have hB3 := hB3.ext hx13
  refine WL.nil ?_
  refine hK14 _ _ ?_; try clear hK14 K14
  refine CW.seq fun K15 hK15 => ?_
  refine CW.region ?_
  refine WL.val (Y.makeFunc rfl) (by decide) ?_
  refine WL.store (g := g6) (pre := []) (old := [Value.nilFunc]) (post := []) (new := [.func (.func 43) #[] #[.pointer (some ⟨g6, 0, none⟩), .pointer (some ⟨g1, 0, none⟩), .pointer (some ⟨g3, 0, none⟩)]]) rfl rfl rfl rfl (by kernel_rfl) (by simpa using hB6) (by first | rfl | (simp [digC_length, opC_length]; done) | (simp only [digC_length, opC_length]; omega)) (one1 rfl) (fun w14 hc14 hB14_ => ?_)
  have hz14 := hc14.size; have hE := hE.step hc14 (fun k h => by omega); have hB1 := hB1.chg hc14 (fun h => by omega); have hB3 := hB3.chg hc14 (fun h => by omega)
  have hB6 : Blk w14 g6 TCf [.func (.func 43) #[] #[.pointer (some ⟨g6, 0, none⟩), .pointer (some ⟨g1, 0, none⟩), .pointer (some ⟨g3, 0, none⟩)]] := by simpa using hB14_
  have hB2 := (hB2.ext hx13).chg hc14 (fun h => by omega)
  have hMb := (hMb.ext hx13).chg hc14 (fun h => by omega)
  have hMa := (hMa.ext hx13).chg hc14 (fun h => by omega)
  have hCp : CpAt w w14 ns g g6 g1 g3 g2 rb2 gr ra2 (liveN ns) [] := {
    ext := hE
    from_ := hB6
    tbox := hB1
    cbox := hB3
    tree := hB2
    map := hMb
    node := fun p hp => by cases hp
    kids := fun p hp => by cases hp
    has := fun p hp => by cases hp
    nodup := List.nodup_nil
    inj := fun p hp => by cases hp
    sep := fun p hp => by cases hp
    low := by omega
    new := fun p hp => by cases hp }
  refine WL.nil ?_
  refine hK15 _ _ ?_; try clear hK15 K15
  refine CW.seq fun K16 hK16 => ?_
  refine CW.held (fun wq => Chg (fun k => k = g2 ∨ k = rb2) w14 wq) (by kernel_rfl) 10 rfl fun w15 hx15 => ?_
  have hS := Ext.chg (S := fun k => k = g2 ∨ k = rb2) hx15
  have hCp := hCp.then hx15
  refine RH.take 0 (fun _ _ _ _ h => h) (by kernel_rfl) hS rfl (by kernel_rfl) (by kernel_rfl) (fun wq hq => Y.load1 Try.underlying23 rfl (hB3.chg hq (fun h => by omega)).mem.cell0 rfl) (by decide) ?_
  refine RH.take 1 (fun _ _ _ _ h => h) (by kernel_rfl) hS rfl (by kernel_rfl) (by kernel_rfl) (fun wq hq => Y.load1 Try.underlying107 rfl (hB6.chg hq (fun h => by omega)).mem.cell0 rfl) (by decide) ?_
  refine RH.take 2 (fun _ _ _ _ h => h) (by kernel_rfl) hS rfl (by kernel_rfl) (by kernel_rfl) (fun wq hq => Y.load1 Try.underlying23 rfl (hB1.chg hq (fun h => by omega)).mem.cell0 rfl) (by decide) ?_
  refine RH.take 3 (fun _ _ _ _ h => h) (by kernel_rfl) hS rfl (by kernel_rfl) (by kernel_rfl) (fun wq hq => Y.nilCheck rfl) (by decide) ?_
  refine RH.take 4 (fun _ _ _ _ h => h) (by kernel_rfl) hS rfl (by kernel_rfl) (by kernel_rfl) (fun wq hq => Y.fieldAddr fo_fugueTree0 rfl) (by decide) ?_
  refine RH.take 5 (fun _ _ _ _ h => h) (by kernel_rfl) hS rfl (by kernel_rfl) (by kernel_rfl) (fun wq hq => Y.load1 Try.underlying42 rfl (((hT.ext hE).chg hq (fun q hp h => by have := hT.lt hp; omega)).blk.mem.fugueTree0) rfl) (by decide) ?_
  refine RH.one 6 (by kernel_rfl) ?_
  refine RS.callV rfl rfl Try.func43 rfl rfl rfl (fcopy1_any g rb ra ad ns g6 g1 g3 g2 rb2 gr ra2 (liveN ns) w hT hG hn 0 (by have := hG.pos; omega) _ [] hCp (fun p hp => by cases hp)) (by decide) fun v41 w16 hR16 => ?_
  obtain ⟨X, y, rfl, hX, hyX, hcov, hnew, hc16⟩ := hR16
  rw [List.nil_append] at hX
  have hS := hS.trans hc16 (fun k _ h => .inr h)
  refine ⟨hS, ?_⟩
  refine RH.take 7 (fun _ _ _ _ h => h) (by kernel_rfl) hS rfl (by kernel_rfl) (by kernel_rfl) (fun wq hq => Y.nilCheck rfl) (by decide) ?_
  refine RH.take 8 (fun _ _ _ _ h => h) (by kernel_rfl) hS rfl (by kernel_rfl) (by kernel_rfl) (fun wq hq => Y.fieldAddr fo_fugueTree0 rfl) (by decide) ?_
  refine RH.one 9 (by kernel_rfl) ?_
  refine RS.store rfl (g := g2) (pre := []) (old := [.pointer (some ⟨gr, 0, none⟩)]) (post := [.map (some rb2), .map (some ra2), .int .i64 (liveN ns : Int)]) (new := [.pointer (some ⟨y.g, 0, none⟩)]) rfl rfl rfl rfl (by kernel_rfl) hX.tree rfl (one1 rfl) (fun w17 hc17 hB17_ => ?_)
  have hS := hS.trans hc17 (fun k _ h => .inl h)
  have hB17 : Blk w17 g2 TF (treeC y.g rb2 ra2 (liveN ns)) := hB17_
  refine ⟨hS, ?_⟩
  refine RH.done (by kernel_rfl) ?_
  have hz17 := hS.size
  have hE := hE.step hS (fun k h => by omega)
  have hB3 := hX.cbox.chg hc17 (fun h => by omega)
  have hgD : gD X 0 = y.g := gD_mem hX.nodup hyX
  have hMa16 := (hMa.ext hx15).chg hc16 (fun h => by omega)
  have hcov : ∀ i, (∃ p ∈ X, p.1 = i) ↔ i < ns.length := fun i => by rw [hcov i, ← hel]; exact hG.mem
  have hfin := hX.ftAt hT hG hcov hc17 (by rw [hgD]; exact hB17) ⟨_, _, hMa16, fun f hf => (copA_mem hf).choose_spec.2.2.2, copA_born, by rw [copA_k]; exact (hp.map AE.k).nodup_iff.2 hkeys, fun d => by rw [copA_k]; exact (hp.map AE.k).mem_iff.trans (hmem d)⟩ (by omega)
  have hXn := hX.nodup
  have hXw := hX.new
  refine hK16 _ _ ?_; try clear hK16 K16
  refine CW.seq fun K17 hK17 => ?_
  refine CW.region ?_
  refine WL.val (Y.load1 Try.underlying23 rfl hB3.mem.cell0 rfl) (by decide) ?_
  refine WL.val (Y.assign rfl) (by decide) ?_
  refine WL.nil ?_
  refine hK17 _ _ ?_; try clear hK17 K17
  refine CW.ret ⟨_, rfl, ?_⟩
  exact ⟨g2, rb2, ra2, nsD ns.length X, rfl, hfin.1, hfin.2, (fun q hq => by
    rcases hq with h | h | h | ⟨x, hx, h⟩
    · omega
    · omega
    · omega
    · obtain ⟨p, hp, rfl⟩ := nsD_mem hXn hcov hx
      rcases h with h | ⟨s, h⟩
      · have := (hXw p hp).1; omega
      · exact (hXw p hp).2 s q h), hE⟩
end Go.Proofs.Ytmndofgagngcgaa
