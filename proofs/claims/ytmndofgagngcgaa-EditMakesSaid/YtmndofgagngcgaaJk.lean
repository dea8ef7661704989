/- The document's Ops, and two lists of operations, walked. No condition but bounds. -/
import Derived.Test.YtmndofgagngcgaaJj
set_option linter.unusedSimpArgs false
set_option linter.unusedVariables false
namespace Go.Fw
open Go.RowKit Go.Fu
theorem putR_pos {g : RefD × Bool × Bool} {n k : Nat} (h : k ≠ 0) : putR g n k = ⟨true, Dig.zero, ((n + k : Nat) : Int)⟩ ∧ putS g k = false := by
  cases k with
  | zero => exact absurd rfl h
  | succ k => exact ⟨rfl, rfl⟩
theorem opsAt_0 (e : List El) (b : List UInt8) : opsAt e b 0 = ⟨0, 0, []⟩ := by simp [opsAt]
/-- Behind one edit more, by its kind. -/
theorem opsAt_keep {e : List El} {b : List UInt8} {k : Nat} {x : EdD} (h : (scriptE (textE e) b)[k]? = some x) (hk : x.kind = 1) : (opsAt e b (k + 1)).at_ = (opsAt e b k).at_ + x.n ∧ (opsAt e b (k + 1)).kept = (opsAt e b k).at_ + x.n ∧ (opsAt e b (k + 1)).out = (opsAt e b k).out := by
  rw [opsAt_succ h, edOps, if_pos hk]; exact ⟨rfl, rfl, rfl⟩
theorem opsAt_cut {e : List El} {b : List UInt8} {k : Nat} {x : EdD} (h : (scriptE (textE e) b)[k]? = some x) (hk : x.kind = 2) : (opsAt e b (k + 1)).at_ = (opsAt e b k).at_ + x.n ∧ (opsAt e b (k + 1)).kept = (opsAt e b k).kept ∧ (opsAt e b (k + 1)).out = (opsAt e b k).out ++ cutL ((seenE e).map (nm e)) (opsAt e b k).at_ x.n := by
  rw [opsAt_succ h, edOps, if_neg (by omega), if_pos hk]
  exact ⟨rfl, rfl, by simp [cutOps, cutL, ← List.map_drop, ← List.map_take, Function.comp_def]⟩
theorem opsAt_put {e : List El} {b : List UInt8} {k : Nat} {x : EdD} (h : (scriptE (textE e) b)[k]? = some x) (hk : x.kind = 3) : (opsAt e b (k + 1)).at_ = (opsAt e b k).at_ ∧ (opsAt e b (k + 1)).kept = (opsAt e b k).kept ∧ (opsAt e b (k + 1)).out = (opsAt e b k).out ++ insOps (gapE e ((opsAt e b k).kept : Int)) (opsAt e b k).out.length x.text := by
  rw [opsAt_succ h, edOps, if_neg (by omega), if_neg (by omega)]; exact ⟨rfl, rfl, rfl⟩
end Go.Fw
namespace Go.Proofs.Ytmndofgagngcgaa
open Go.RowKit Go.Fw Go.Fu Go.Pl
attribute [local irreducible] Go.Fu.opsAt
theorem bld_opI (b : UInt8) (r : RefD) (w : World) : (Instr.build 93 [(0, Value.int .i64 1), (3, Value.int .u8 (b.toNat : Int)), (2, refV r)].toArray).run Try.prog w = .ok (.agg (opC ⟨1, false, r, b⟩).toArray) w := run_build w _ _ _ (by
  have hb : ∀ parts, Try.prog.built 93 parts = Instr.fill (fun i => #[(0, 1), (1, 1), (2, 34), (36, 1)][i]?) (opC ⟨0, false, RefD.zero, 0⟩).toArray parts := fun parts => by kernel_rfl
  show Try.prog.built _ [(0, Value.int .i64 1), (3, Value.int .u8 (b.toNat : Int)), (2, refV r)] = _
  rw [hb]
  have e0 : opC ⟨0, false, RefD.zero, 0⟩ = [] ++ [Value.int .i64 0] ++ ([Value.bool false] ++ refC RefD.zero ++ [bc 0]) := rfl
  rw [e0, fill_step [] [Value.int .i64 0] ([Value.bool false] ++ refC RefD.zero ++ [bc 0]) [.int .i64 1] rfl rfl rfl rfl]
  have e1 : [] ++ [Value.int .i64 1] ++ ([Value.bool false] ++ refC RefD.zero ++ [bc 0]) = ([Value.int .i64 1, .bool false] ++ refC RefD.zero) ++ [bc 0] ++ [] := by simp
  rw [e1, fill_step ([Value.int .i64 1, .bool false] ++ refC RefD.zero) [bc 0] [] [.int .u8 (b.toNat : Int)] rfl rfl rfl (by rw [List.length_append, refC_length]; rfl)]
  have e2 : ([Value.int .i64 1, .bool false] ++ refC RefD.zero) ++ [.int .u8 (b.toNat : Int)] ++ [] = [Value.int .i64 1, .bool false] ++ refC RefD.zero ++ [.int .u8 (b.toNat : Int)] := by simp
  rw [e2, fill_step [Value.int .i64 1, .bool false] (refC RefD.zero) [.int .u8 (b.toNat : Int)] (refC r) (by rw [refC_length]; rfl) rfl (by rw [refC_length, refC_length]) rfl, Instr.fill]
  simp [opC, bc])

set_option maxRecDepth 100000 in
set_option maxHeartbeats 4000000 in
theorem rops_any (g : Nat) (ad : List Dig) (rs : List Rn) (av ev_ : Value) (b : List UInt8) (w : World) (hR : RtAt w g ad rs av ev_) (hG : Fu.Good (rels rs)) (hn : rs.length ≤ 400001) (hb : b.length < 4611686018427387904) : Calls Try.prog 12 #[.pointer (some ⟨g, 0, none⟩), .string (bs b)] w (Ret fun v w' => ∃ u, v = .tuple #[u, .int .i64 (mkErr (textE (rels rs)) b : Int)] ∧ Own w' TOp 37 u (flatO (opsR (rels rs) b)) ∧ (∀ q, u.ownBlock = some q → w.heap.size ≤ q) ∧ Ext w w') := by
  obtain ⟨A, m, c, rfl⟩ := hR.es.lens
  have hsl := hR.sl
  have hel : (rels rs).length = rs.length := List.length_map _
  have hmm : rs.length = m ∧ m ≤ c ∧ c ≤ maxLen := by
    obtain ⟨A', m', c', e, h1, h2, h3, _⟩ := hsl
    injection e with e1 e2 e3
    exact ⟨by omega, by omega, by omega⟩
  unfold maxLen at hmm
  have hat : ∀ i x, rs[i]? = some x → ∃ a, A = some a ∧ Mem w (a.add (i * 38)) (rC x) := fun i x hx => hsl.get hx
  have hxe : ∀ (i : Nat) (x : Rn), rs[i]? = some x → (rels rs)[i]? = some x.el := fun i x hx => by rw [List.getElem?_map, hx]; rfl
  have hpos := hG.pos
  obtain ⟨x0, hx0⟩ : ∃ x, rs[0]? = some x := ⟨_, List.getElem?_eq_getElem (by omega)⟩
  obtain ⟨EA, hEA, _⟩ := hat 0 x0 hx0
  subst hEA
  have hme : ∀ i x, rs[i]? = some x → Mem w (EA.add (i * 38)) (rC x) := fun i x hx => by
    obtain ⟨a, ha, h⟩ := hat i x hx
    cases ha; exact h
  have htl : (textE (rels rs)).length = (seenE (rels rs)).length := by simp [textE]
  have hsn : (seenE (rels rs)).length ≤ 400001 := by
    have hol : (orderE (rels rs)).length = rs.length := by
      have := hG.perm.length_eq
      rwa [List.length_range, hel] at this
    have : (seenE (rels rs)).length ≤ (orderE (rels rs)).length := List.length_filter_le _ _
    omega
  refine calls_of_CW 128 [4, 5] [(0, .pointer (some ⟨g, 0, none⟩)), (1, .string (bs b))] Try.func12 rfl rfl rfl (by simp) args2 ?_
  have hE : Ext w w := Chg.refl
  refine CW.seq fun K1 hK1 => ?_
  refine CW.region ?_
  refine WL.val (Y.assign rfl) (by decide) ?_
  refine WL.val (Y.assign rfl) (by decide) ?_
  refine WL.nil ?_
  refine hK1 _ _ ?_; try clear hK1 K1
  refine CW.seq fun K2 hK2 => ?_
  refine CW.region ?_
  refine WL.val (Y.move rfl) (by decide) ?_
  refine WL.call Try.func15 rfl rfl rfl (rtext_any g ad rs av _ _ (hR.ext hE) hG hn) (by simp) ?_; rintro v w1 ⟨rfl, hx1⟩; have hz1 := hx1.size; have hE := hE.thenExt hx1
  refine WL.val (Y.move rfl) (by decide) ?_
  refine WL.call Try.func33 rfl rfl rfl (rmake_any (textE (rels rs)) b _ (by omega) hb) (by simp) ?_; rintro v23 w2 hR2
  obtain ⟨lv, rfl, hOl, hf2, hx2⟩ := hR2
  have hz2 := hx2.size
  have hE := hE.thenExt hx2
  refine WL.val (Y.move rfl) (by decide) ?_
  refine WL.val (Y.extract rfl rfl) (by decide) ?_
  refine WL.val (Y.extract rfl rfl) (by decide) ?_
  refine WL.val (Y.assign rfl) (by decide) ?_
  refine WL.val (Y.assign rfl) (by decide) ?_
  refine WL.nil ?_
  refine hK2 _ _ ?_; try clear hK2 K2
  refine CW.seq fun K3 hK3 => ?_
  refine CW.seq fun K4 hK4 => ?_
  refine CW.region ?_
  refine WL.val (Y.move rfl) (by decide) ?_
  refine WL.val (Y.neq rfl rfl) (by decide) ?_
  refine WL.nil ?_
  refine hK4 _ _ ?_; try clear hK4 K4
  first | refine CW.condD rfl (fun ht5 => ?_) (fun ht5 => ?_) | refine CW.condND rfl (fun ht5 => ?_) (fun ht5 => ?_) | refine CW.condN rfl (fun ht5 => ?_) (fun ht5 => ?_) | refine CW.cond rfl (fun ht5 => ?_) (fun ht5 => ?_)
  · -- then
    refine CW.seq fun K6 hK6 => ?_
    refine CW.region ?_
    refine WL.val (Y.move rfl) (by decide) ?_
    refine WL.val (Y.assign rfl) (by decide) ?_
    refine WL.val (Y.assign rfl) (by decide) ?_
    refine WL.nil ?_
    refine hK6 _ _ ?_; try clear hK6 K6
    refine CW.ret ⟨_, rfl, ?_⟩
    have h0 : mkErr (textE (rels rs)) b ≠ 0 := fun h => absurd (by rw [h]; rfl) ht5
    exact ⟨_, rfl, (by rw [opsR, if_neg h0]; exact Own.nil), (fun q h => by simp [Value.ownBlock] at h), hE⟩
  refine CW.skip ?_
  refine hK3 _ _ ?_; try clear hK3 K3
  have hok : mkErr (textE (rels rs)) b = 0 := by omega
  obtain ⟨hmk, hl1, hl2⟩ := mkE_ok hok
  rw [hmk] at hOl
  obtain ⟨lA, lm, lc, rfl⟩ := hOl.lens
  have hlm := (hOl.len edC_length (by decide)).1
  have hll : lm ≤ 2000 := by have := script_length (textE (rels rs)) b; omega
  refine CW.seq fun K7 hK7 => ?_
  refine CW.region ?_
  refine WL.val (Y.move rfl) (by decide) ?_
  refine WL.call Try.func34 rfl rfl rfl (rseen_any g ad rs av _ _ (hR.ext hE) hG hn) (by simp) ?_; rintro v30 w3 hR3
  obtain ⟨hOS, hfS, hxS⟩ := hR3
  have hzS := hxS.size
  obtain ⟨SA, Sm, Sc, rfl⟩ := hOS.lens
  obtain ⟨hlmS, hlgS⟩ := int_map hOS
  have hE3 := hE.thenExt hxS
  have hE := hE3
  refine WL.val (Y.assign rfl) (by decide) ?_
  refine WL.nil ?_
  refine hK7 _ _ ?_; try clear hK7 K7
  refine CW.seq fun K8 hK8 => ?_
  refine CW.region ?_
  refine WL.val (Y.assign rfl) (by decide) ?_
  refine WL.nil ?_
  refine hK8 _ _ ?_; try clear hK8 K8
  refine CW.seq fun K9 hK9 => ?_
  refine CW.region ?_
  refine WL.val (Y.assign rfl) (by decide) ?_
  refine WL.nil ?_
  refine hK9 _ _ ?_; try clear hK9 K9
  refine CW.seq fun K10 hK10 => ?_
  refine CW.region ?_
  refine WL.val (Y.assign rfl) (by decide) ?_
  refine WL.nil ?_
  refine hK10 _ _ ?_; try clear hK10 K10
  refine CW.seq fun K11 hK11 => ?_
  refine CW.seq fun K12 hK12 => ?_
  refine CW.region ?_
  refine WL.val (Y.assign rfl) (by decide) ?_
  refine WL.nil ?_
  refine hK12 _ _ ?_; try clear hK12 K12
  refine CW.block ?_
  refine CW.loop (X := Nat × Value) (fun x => [(0, .pointer (some ⟨g, 0, none⟩)), (6, .slice lA lm lc), (8, .slice SA Sm Sc), (9, .int .i64 ((opsAt (rels rs) b x.1).at_ : Int)), (10, .int .i64 ((opsAt (rels rs) b x.1).kept : Int)), (11, x.2), (12, .int .i64 (x.1 : Int))]) (fun x w0 => x.1 ≤ lm ∧ Ext w3 w0 ∧ Own w0 TOp 37 x.2 (flatO (opsAt (rels rs) b x.1).out) ∧ ∀ q, x.2.ownBlock = some q → w3.heap.size ≤ q) (fun x => lm - x.1) (0, .slice none 0 0) (by repeat (first | exact Fr.le.nil | refine Fr.le.cons rfl ?_ | refine Fr.le.cons (by show _ = some (Value.int .i64 (((opsAt (rels rs) b 0).at_ : Nat) : Int)); rw [opsAt_0]; rfl) ?_ | refine Fr.le.cons (by show _ = some (Value.int .i64 (((opsAt (rels rs) b 0).kept : Nat) : Int)); rw [opsAt_0]; rfl) ?_)) ⟨Nat.zero_le _, Chg.refl, (by rw [opsAt_0]; exact Own.nil), fun q h => by simp [Value.ownBlock] at h⟩ ?_
  intro x w4 hl4
  obtain ⟨i, ov⟩ := x
  obtain ⟨hi, hL, hO, hf⟩ := hl4
  dsimp only at hi hO hf ⊢
  have hE := hE3.thenExt hL
  have hzL := hL.size
  refine CW.seq fun K13 hK13 => ?_
  refine CW.seq fun K14 hK14 => ?_
  refine CW.region ?_
  refine WL.val (Y.move rfl) (by decide) ?_
  refine WL.val (Y.move rfl) (by decide) ?_
  refine WL.val (Y.len_slice Try.underlying55 rfl) (by decide) ?_
  refine WL.val (Y.lss rfl rfl) (by decide) ?_
  refine WL.nil ?_
  refine hK14 _ _ ?_; try clear hK14 K14
  first | refine CW.condD rfl (fun ht15 => ?_) (fun ht15 => ?_) | refine CW.condND rfl (fun ht15 => ?_) (fun ht15 => ?_) | refine CW.condN rfl (fun ht15 => ?_) (fun ht15 => ?_) | refine CW.cond rfl (fun ht15 => ?_) (fun ht15 => ?_)
  · -- then
    refine CW.skip ?_
    refine hK13 _ _ ?_; try clear hK13 K13
    obtain ⟨ed, hed⟩ : ∃ ed, (scriptE (textE (rels rs)) b)[i]? = some ed := ⟨_, List.getElem?_eq_getElem (by omega)⟩
    have hov := opsAt_over hed
    have hco := opsAt_cost hed
    have hovr9 : ed.kind = 3 ∨ ed.over = ed.n := by
      rcases Decidable.em (ed.kind = 3) with h | h
      · exact .inl h
      · right; unfold EdD.over; rw [if_neg h]
    have hki := (opsAt_inv (rels rs) b i).kept
    have hmay := script_may _ _ ed (List.mem_of_getElem? hed)
    have hbs := bs_size ed.text
    obtain ⟨la, hla, hme3⟩ := ((hOl.ext hxS).sl edC_length (by decide)).get hed
    subst hla
    have hmeW : ∀ W, Ext w3 W → Mem W (la.add (i * 3)) (edC ed) := fun W hW => hme3.ext hW
    refine CW.seq_to (X := Value) (fun v => [(0, .pointer (some ⟨g, 0, none⟩)), (6, .slice (some la) lm lc), (8, .slice SA Sm Sc), (9, .int .i64 ((opsAt (rels rs) b (i + 1)).at_ : Int)), (10, .int .i64 ((opsAt (rels rs) b (i + 1)).kept : Int)), (11, v), (12, .int .i64 (i : Int))]) (fun v w0 => Ext w3 w0 ∧ Own w0 TOp 37 v (flatO (opsAt (rels rs) b (i + 1)).out) ∧ ∀ q, v.ownBlock = some q → w3.heap.size ≤ q) ?_ ?_
    · skip
      refine CW.block ?_
      refine CW.seq fun K17 hK17 => ?_
      refine CW.region ?_
      refine WL.val (Y.move rfl) (by decide) ?_
      refine WL.val (Y.move rfl) (by decide) ?_
      refine WL.val (Y.indexAddrN Try.underlying55 rfl rfl sz0_apiEdit (by omega)) (by decide) ?_
      refine WL.val (Y.fieldAddr fo_apiEdit0 rfl) (by decide) ?_
      refine WL.val (Y.load1 Try.underlying3 rfl ((hmeW _ hL).apiEdit0) rfl) (by decide) ?_
      refine WL.nil ?_
      refine hK17 _ _ ?_; try clear hK17 K17
      refine CW.block ?_
      refine CW.seq fun K18 hK18 => ?_
      refine CW.region ?_
      refine WL.val (Y.eql rfl rfl) (by decide) ?_
      refine WL.val (Y.assign rfl) (by decide) ?_
      refine WL.nil ?_
      refine hK18 _ _ ?_; try clear hK18 K18
      first | refine CW.condD rfl (fun ht19 => ?_) (fun ht19 => ?_) | refine CW.condND rfl (fun ht19 => ?_) (fun ht19 => ?_) | refine CW.condN rfl (fun ht19 => ?_) (fun ht19 => ?_) | refine CW.cond rfl (fun ht19 => ?_) (fun ht19 => ?_)
      · -- then
        refine CW.seq fun K20 hK20 => ?_
        refine CW.region ?_
        refine WL.val (Y.move rfl) (by decide) ?_
        refine WL.val (Y.move rfl) (by decide) ?_
        refine WL.val (Y.move rfl) (by decide) ?_
        refine WL.val (Y.indexAddrN Try.underlying55 rfl rfl sz0_apiEdit (by omega)) (by decide) ?_
        refine WL.val (Y.fieldAddr fo_apiEdit1 rfl) (by decide) ?_
        refine WL.val (Y.load1 Try.underlying3 rfl ((hmeW _ hL).apiEdit1) rfl) (by decide) ?_
        refine WL.val (Y.add rfl rfl ⟨by omega, by omega⟩) (by decide) ?_
        refine WL.val (Y.assign rfl) (by decide) ?_
        refine WL.nil ?_
        refine hK20 _ _ ?_; try clear hK20 K20
        refine CW.region ?_
        refine WL.val (Y.move rfl) (by decide) ?_
        refine WL.val (Y.assign rfl) (by decide) ?_
        refine WL.nil ?_
        obtain ⟨ha1, hk1, ho1⟩ := opsAt_keep hed (by omega)
        exact ⟨ov, (by repeat (first | exact Fr.le.nil | refine Fr.le.cons rfl ?_ | refine Fr.le.cons (by show some (Value.int .i64 _) = some (Value.int .i64 _); congr 2; omega) ?_)), hL, (by rw [ho1]; exact hO), hf⟩
   
      refine CW.seq fun K21 hK21 => ?_
      refine CW.region ?_
      refine WL.val (Y.eql rfl rfl) (by decide) ?_
      refine WL.val (Y.assign rfl) (by decide) ?_
      refine WL.nil ?_
      refine hK21 _ _ ?_; try clear hK21 K21
      first | refine CW.condD rfl (fun ht22 => ?_) (fun ht22 => ?_) | refine CW.condND rfl (fun ht22 => ?_) (fun ht22 => ?_) | refine CW.condN rfl (fun ht22 => ?_) (fun ht22 => ?_) | refine CW.cond rfl (fun ht22 => ?_) (fun ht22 => ?_)
      · -- then
        refine CW.seq fun K23 hK23 => ?_
        refine CW.seq fun K24 hK24 => ?_
        refine CW.region ?_
        refine WL.val (Y.assign rfl) (by decide) ?_
        refine WL.nil ?_
        refine hK24 _ _ ?_; try clear hK24 K24
        refine CW.block ?_
        refine CW.loop (X := Nat × Value) (fun x => [(0, .pointer (some ⟨g, 0, none⟩)), (6, .slice (some la) lm lc), (8, .slice SA Sm Sc), (9, .int .i64 ((opsAt (rels rs) b i).at_ : Int)), (10, .int .i64 ((opsAt (rels rs) b i).kept : Int)), (11, x.2), (12, .int .i64 (i : Int)), (13, .int .i64 (x.1 : Int))]) (fun x w0 => x.1 ≤ ed.n ∧ Ext w3 w0 ∧ Own w0 TOp 37 x.2 (flatO ((opsAt (rels rs) b i).out ++ cutL ((seenE (rels rs)).map (nm (rels rs))) (opsAt (rels rs) b i).at_ x.1)) ∧ ∀ q, x.2.ownBlock = some q → w3.heap.size ≤ q) (fun x => ed.n - x.1) (0, ov) (by repeat (first | exact Fr.le.nil | refine Fr.le.cons rfl ?_)) ⟨Nat.zero_le _, hL, (by simpa [cutL] using hO), hf⟩ ?_
        intro x w5 hl5
        have hovr : ed.over = ed.n := by unfold EdD.over; rw [if_neg (by omega)]
        obtain ⟨k, ov2⟩ := x
        obtain ⟨hk, hL2, hO2, hf2⟩ := hl5
        dsimp only at hk hO2 hf2 ⊢
        have hE := hE3.thenExt hL2
        have hzL2 := hL2.size
        refine CW.seq fun K25 hK25 => ?_
        refine CW.seq fun K26 hK26 => ?_
        refine CW.region ?_
        refine WL.val (Y.move rfl) (by decide) ?_
        refine WL.val (Y.move rfl) (by decide) ?_
        refine WL.val (Y.move rfl) (by decide) ?_
        refine WL.val (Y.indexAddrN Try.underlying55 rfl rfl sz0_apiEdit (by omega)) (by decide) ?_
        refine WL.val (Y.fieldAddr fo_apiEdit1 rfl) (by decide) ?_
        refine WL.val (Y.load1 Try.underlying3 rfl ((hmeW _ hL2).apiEdit1) rfl) (by decide) ?_
        refine WL.val (Y.lss rfl rfl) (by decide) ?_
        refine WL.nil ?_
        refine hK26 _ _ ?_; try clear hK26 K26
        first | refine CW.condD rfl (fun ht27 => ?_) (fun ht27 => ?_) | refine CW.condND rfl (fun ht27 => ?_) (fun ht27 => ?_) | refine CW.condN rfl (fun ht27 => ?_) (fun ht27 => ?_) | refine CW.cond rfl (fun ht27 => ?_) (fun ht27 => ?_)
        · -- then
          refine CW.skip ?_
          refine hK25 _ _ ?_; try clear hK25 K25
          refine CW.seq fun K28 hK28 => ?_
          refine CW.block ?_
          obtain ⟨q, hqk⟩ : ∃ q, (seenE (rels rs))[(opsAt (rels rs) b i).at_ + k]? = some q := ⟨_, List.getElem?_eq_getElem (by omega)⟩
          obtain ⟨oa, hoa, hmo⟩ := hlgS _ q hqk
          subst hoa
          have hql : q < rs.length := by have := seen_lt hG.down (List.mem_of_getElem? hqk); omega
          obtain ⟨y, hy⟩ : ∃ y, rs[q]? = some y := ⟨_, List.getElem?_eq_getElem hql⟩
          have hye := hxe q y hy
          have hmy := hme q y hy
          have hr : ((seenE (rels rs)).map (nm (rels rs)))[(opsAt (rels rs) b i).at_ + k]? = some y.el.name := by rw [List.getElem?_map, hqk]; simp [nm_at hye]
          have hol2 : ((opsAt (rels rs) b i).out ++ cutL ((seenE (rels rs)).map (nm (rels rs))) (opsAt (rels rs) b i).at_ k).length ≤ 4000 := by have := cutL_len (rs := ((seenE (rels rs)).map (nm (rels rs)))) (a := (opsAt (rels rs) b i).at_) (n := k); rw [List.length_append]; omega
          refine CW.held (fun wq => Chg (fun k => ov2.ownBlock = some k) w5 wq) (by kernel_rfl) 18 rfl fun w6 hx6 => ?_
          have hS : Chg (fun k => ov2.ownBlock = some k) w5 w6 := hx6.chg
          have hO2 := hO2.ext hx6
          refine RH.take 0 (fun _ _ _ _ h => h) (by kernel_rfl) hS rfl (by kernel_rfl) (by kernel_rfl) (fun wq hq => Y.move rfl) (by decide) ?_
          refine RH.take 1 (fun _ _ _ _ h => h) (by kernel_rfl) hS rfl (by kernel_rfl) (by kernel_rfl) (fun wq hq => Y.move rfl) (by decide) ?_
          refine RH.take 2 (fun _ _ _ _ h => h) (by kernel_rfl) hS rfl (by kernel_rfl) (by kernel_rfl) (fun wq hq => Y.nilCheck rfl) (by decide) ?_
          refine RH.take 3 (fun _ _ _ _ h => h) (by kernel_rfl) hS rfl (by kernel_rfl) (by kernel_rfl) (fun wq hq => Y.fieldAddr fo_recensionref08Tree1 rfl) (by decide) ?_
          refine RH.take 4 (fun _ _ _ _ h => h) (by kernel_rfl) hS rfl (by kernel_rfl) (by kernel_rfl) (fun wq hq => Y.load1 Try.underlying89 rfl ((hR.ext (hE.step hq (fun k h => by have := hf2 k h; omega))).blk.mem.recensionref08Tree1) rfl) (by decide) ?_
          refine RH.take 5 (fun _ _ _ _ h => h) (by kernel_rfl) hS rfl (by kernel_rfl) (by kernel_rfl) (fun wq hq => Y.move rfl) (by decide) ?_
          refine RH.take 6 (fun _ _ _ _ h => h) (by kernel_rfl) hS rfl (by kernel_rfl) (by kernel_rfl) (fun wq hq => Y.move rfl) (by decide) ?_
          refine RH.take 7 (fun _ _ _ _ h => h) (by kernel_rfl) hS rfl (by kernel_rfl) (by kernel_rfl) (fun wq hq => Y.move rfl) (by decide) ?_
          refine RH.take 8 (fun _ _ _ _ h => h) (by kernel_rfl) hS rfl (by kernel_rfl) (by kernel_rfl) (fun wq hq => Y.add rfl rfl ⟨by omega, by omega⟩) (by decide) ?_
          refine RH.take 9 (fun _ _ _ _ h => h) (by kernel_rfl) hS rfl (by kernel_rfl) (by kernel_rfl) (fun wq hq => Y.indexAddrN Try.underlying84 rfl rfl sz0_int (by omega) (i := (opsAt (rels rs) b i).at_ + k)) (by decide) ?_
          refine RH.take 10 (fun _ _ _ _ h => h) (by kernel_rfl) hS rfl (by kernel_rfl) (by kernel_rfl) (fun wq hq => Y.load1 Try.underlying3 rfl ((hmo.ext (hL2.step hq (fun k h => hf2 k h))).cell0) rfl) (by decide) ?_
          refine RH.take 11 (fun _ _ _ _ h => h) (by kernel_rfl) hS rfl (by kernel_rfl) (by kernel_rfl) (fun wq hq => Y.indexAddrN Try.underlying89 rfl rfl sz0_recensionref08Elem (by omega)) (by decide) ?_
          refine RH.take 12 (fun _ _ _ _ h => h) (by kernel_rfl) hS rfl (by kernel_rfl) (by kernel_rfl) (fun wq hq => Y.fieldAddr fo_recensionref08Elem0 rfl) (by decide) ?_
          refine RH.take 13 (fun _ _ _ _ h => h) (by kernel_rfl) hS rfl (by kernel_rfl) (by kernel_rfl) (fun wq hq => Y.load Try.underlying61 rfl ((hmy.ext (hE.step hq (fun k h => by have := hf2 k h; omega))).recensionref08Elem0) (sz_apiRef _) rfl) (by decide) ?_
          refine RH.take 14 (fun _ _ _ _ h => h) (by kernel_rfl) hS rfl (by kernel_rfl) (by kernel_rfl) (fun wq hq => Y.build rfl (bld_opD y.el.name _)) (by decide) ?_
          refine RH.one 15 (by kernel_rfl) ?_
          refine RS.st rfl (St.buildSlice rfl (bs1_op ⟨2, false, y.el.name, 0⟩)) (by decide) fun v78 w7 hR7 => ?_
          obtain ⟨gb, rfl, hgb, hBb, hxb⟩ := hR7
          have hzb := hxb.size
          have hO2 := hO2.ext hxb
          have hS := hS.thenExt hxb
          have hzS := hS.size
          refine ⟨hS, ?_⟩
          refine RH.one 16 (by kernel_rfl) ?_
          refine RS.st rfl (St.append (m := 1) (news := opC ⟨2, false, y.el.name, 0⟩) Try.underlying27 Try.underlying27 ai_op rfl rfl hO2 (Fw.Src.one hBb (opC_length _)) one_opC (by rw [flat_length opC_length]; omega)) (by decide) fun v79 w8 hR8 => ?_
          obtain ⟨hO5, hc5, hf5⟩ := hR8
          have hz5 := hc5.size
          have hS := hS.trans hc5 (fun q _ h => h)
          refine ⟨hS, ?_⟩
          refine RH.take 17 (fun _ _ _ _ h => h) (by kernel_rfl) hS rfl (by kernel_rfl) (by kernel_rfl) (fun wq hq => Y.assign rfl) (by decide) ?_
          refine RH.done (by kernel_rfl) ?_
          have hL5 := hL2.step hS (fun k h => hf2 k h)
          have hE := hE3.thenExt hL5
          have hf6 : ∀ q, v79.ownBlock = some q → w3.heap.size ≤ q := fun q hq => by
            rcases hf5 with h | h
            · rw [h] at hq; exact hf2 q hq
            · have := h q hq; omega
          refine hK28 _ _ ?_; try clear hK28 K28
          refine CW.region ?_
          refine WL.val (Y.move rfl) (by decide) ?_
          refine WL.val (Y.add rfl rfl ⟨by omega, by omega⟩) (by decide) ?_
          refine WL.val (Y.assign rfl) (by decide) ?_
          refine WL.nil ?_
          exact ⟨(k + 1, v79), by show ed.n - (k + 1) < ed.n - k; omega, (by repeat (first | exact Fr.le.nil | refine Fr.le.cons rfl ?_)), by show k + 1 ≤ ed.n; omega, hL5, (by show Own _ _ _ _ (flatO (_ ++ cutL _ _ (k + 1))); rw [cutL_succ hr]; simpa [flatO] using hO5), hf6⟩
     
        refine CW.exit ?_
        refine hK23 _ _ ?_; try clear hK23 K23
        refine CW.region ?_
        refine WL.val (Y.move rfl) (by decide) ?_
        refine WL.val (Y.move rfl) (by decide) ?_
        refine WL.val (Y.move rfl) (by decide) ?_
        refine WL.val (Y.indexAddrN Try.underlying55 rfl rfl sz0_apiEdit (by omega)) (by decide) ?_
        refine WL.val (Y.fieldAddr fo_apiEdit1 rfl) (by decide) ?_
        refine WL.val (Y.load1 Try.underlying3 rfl ((hmeW _ hL2).apiEdit1) rfl) (by decide) ?_
        refine WL.val (Y.add rfl rfl ⟨by omega, by omega⟩) (by decide) ?_
        refine WL.val (Y.assign rfl) (by decide) ?_
        refine WL.nil ?_
        obtain ⟨ha1, hk1, ho1⟩ := opsAt_cut hed (by omega)
        have hke : k = ed.n := by omega
        subst hke
        exact ⟨ov2, (by repeat (first | exact Fr.le.nil | refine Fr.le.cons rfl ?_ | refine Fr.le.cons (by show some (Value.int .i64 _) = some (Value.int .i64 _); congr 2; omega) ?_)), hL2, (by rw [ho1]; exact hO2), hf2⟩
   
      refine CW.seq fun K29 hK29 => ?_
      refine CW.region ?_
      refine WL.val (Y.eql rfl rfl) (by decide) ?_
      refine WL.val (Y.assign rfl) (by decide) ?_
      refine WL.nil ?_
      refine hK29 _ _ ?_; try clear hK29 K29
      first | refine CW.condD rfl (fun ht30 => ?_) (fun ht30 => ?_) | refine CW.condND rfl (fun ht30 => ?_) (fun ht30 => ?_) | refine CW.condN rfl (fun ht30 => ?_) (fun ht30 => ?_) | refine CW.cond rfl (fun ht30 => ?_) (fun ht30 => ?_)
      · -- then
        refine CW.seq fun K31 hK31 => ?_
        refine CW.region ?_
        refine WL.val (Y.move rfl) (by decide) ?_
        refine WL.val (Y.move rfl) (by decide) ?_
        refine WL.call Try.func35 rfl rfl rfl (rgap_any g ad rs av _ ((opsAt (rels rs) b i).kept : Int) _ (hR.ext hE) hG hn) (by simp) ?_; rintro v w9 ⟨rfl, hx9⟩; have hz9 := hx9.size; have hE := hE.thenExt hx9
        refine WL.val (Y.move rfl) (by decide) ?_
        refine WL.val (Y.extract rfl rfl) (by decide) ?_
        refine WL.val (Y.extract rfl rfl) (by decide) ?_
        refine WL.val (Y.extract rfl rfl) (by decide) ?_
        refine as_apiRef rfl (by simp) (by decide) fun g14 w10 hx10 hg14 hB14 => ?_
        have hlt14 := hB14.lt; have hz10 := hx10.size
        have hM14 := hB14.mem; have hz10 := hx10.size; have hE := hE.thenExt hx10
        refine WL.val (Y.assign rfl) (by decide) ?_
        refine WL.val (Y.assign rfl) (by decide) ?_
        refine WL.nil ?_
        refine hK31 _ _ ?_; try clear hK31 K31
        refine CW.seq fun K32 hK32 => ?_
        refine CW.region ?_
        refine WL.val (Y.assign rfl) (by decide) ?_
        refine WL.nil ?_
        refine hK32 _ _ ?_; try clear hK32 K32
        refine CW.block ?_
        refine CW.loop (X := Nat × Value) (fun x => [(0, .pointer (some ⟨g, 0, none⟩)), (6, .slice (some la) lm lc), (8, .slice SA Sm Sc), (9, .int .i64 ((opsAt (rels rs) b i).at_ : Int)), (10, .int .i64 ((opsAt (rels rs) b i).kept : Int)), (11, x.2), (12, .int .i64 (i : Int)), (14, .pointer (some ⟨g14, 0, none⟩)), (15, .bool (gapE (rels rs) ((opsAt (rels rs) b i).kept : Int)).2.1), (17, .int .i64 (x.1 : Int))]) (fun x w0 => x.1 ≤ ed.text.length ∧ Ext w3 w0 ∧ Own w0 TOp 37 x.2 (flatO ((opsAt (rels rs) b i).out ++ (insOps (gapE (rels rs) ((opsAt (rels rs) b i).kept : Int)) (opsAt (rels rs) b i).out.length ed.text).take x.1)) ∧ (∀ q, x.2.ownBlock = some q → w3.heap.size ≤ q) ∧ Blk w0 g14 TRf (refC (gapE (rels rs) ((opsAt (rels rs) b i).kept : Int)).1)) (fun x => ed.text.length - x.1) (0, ov) (by repeat (first | exact Fr.le.nil | refine Fr.le.cons rfl ?_)) ⟨Nat.zero_le _, (hL.thenExt hx9).thenExt hx10, (by simpa using (hO.ext hx9).ext hx10), hf, hB14⟩ ?_
        intro x w11 hl11
        have hcst : ed.cost = ed.n + ed.text.length := by unfold EdD.cost; rw [if_neg (by omega)]
        obtain ⟨k, ov2⟩ := x
        obtain ⟨hk, hL2, hO2, hf2, hB14⟩ := hl11
        dsimp only at hk hO2 hf2 ⊢
        have hE := hE3.thenExt hL2
        have hzL2 := hL2.size
        refine CW.seq fun K33 hK33 => ?_
        refine CW.seq fun K34 hK34 => ?_
        refine CW.region ?_
        refine WL.val (Y.move rfl) (by decide) ?_
        refine WL.val (Y.move rfl) (by decide) ?_
        refine WL.val (Y.move rfl) (by decide) ?_
        refine WL.val (Y.indexAddrN Try.underlying55 rfl rfl sz0_apiEdit (by omega)) (by decide) ?_
        refine WL.val (Y.fieldAddr fo_apiEdit2 rfl) (by decide) ?_
        refine WL.val (Y.load1 Try.underlying9 rfl ((hmeW _ hL2).apiEdit2) rfl) (by decide) ?_
        refine WL.val (Y.len_string Try.underlying9 rfl) (by decide) ?_
        refine WL.val (Y.lss rfl rfl) (by decide) ?_
        refine WL.nil ?_
        refine hK34 _ _ ?_; try clear hK34 K34
        first | refine CW.condD rfl (fun ht35 => ?_) (fun ht35 => ?_) | refine CW.condND rfl (fun ht35 => ?_) (fun ht35 => ?_) | refine CW.condN rfl (fun ht35 => ?_) (fun ht35 => ?_) | refine CW.cond rfl (fun ht35 => ?_) (fun ht35 => ?_)
        · -- then
          refine CW.skip ?_
          refine hK33 _ _ ?_; try clear hK33 K33
          refine CW.seq fun K36 hK36 => ?_
          obtain ⟨bb, hbb⟩ : ∃ x, ed.text[k]? = some x := ⟨_, List.getElem?_eq_getElem (by omega)⟩
          have hib : k < (bs ed.text).size := by omega
          have hbG : (bs ed.text)[k] = bb := by rw [bsG hib, hbb]; rfl
          obtain ⟨vA, vm, vc, rfl⟩ := hO2.lens
          have hvm : vm = (opsAt (rels rs) b i).out.length + k := by
            have h := (hO2.len opC_length (by decide)).1
            rw [List.length_append, List.length_take, insOps_length] at h
            omega
          have hvl := hO2.lt
          have hg14l := hB14.lt
          have hol2 : ((opsAt (rels rs) b i).out ++ (insOps (gapE (rels rs) ((opsAt (rels rs) b i).kept : Int)) (opsAt (rels rs) b i).out.length ed.text).take k).length ≤ 4000 := by rw [List.length_append, List.length_take, insOps_length]; omega
          refine CW.block ?_
          refine CW.seq fun K37 hK37 => ?_
          refine CW.region ?_
          refine WL.val (Y.move rfl) (by decide) ?_
          refine WL.val (Y.move rfl) (by decide) ?_
          refine WL.val (Y.indexAddrN Try.underlying55 rfl rfl sz0_apiEdit (by omega)) (by decide) ?_
          refine WL.val (Y.fieldAddr fo_apiEdit2 rfl) (by decide) ?_
          refine WL.val (Y.load1 Try.underlying9 rfl ((hmeW _ hL2).apiEdit2) rfl) (by decide) ?_
          refine WL.val (Y.move rfl) (by decide) ?_
          refine WL.val (Y.index_string (i := k) (s := bs ed.text) Try.underlying9 rfl rfl (by omega)) (by decide) ?_
          refine WL.val (Y.move rfl) (by decide) ?_
          refine WL.val (Y.len_slice Try.underlying27 rfl) (by decide) ?_
          refine WL.val (Y.build rfl (bld_refP _ _)) (by decide) ?_
          refine WL.val (Y.build rfl (bld_opI _ _ _)) (by decide) ?_
          refine as_apiOp rfl (by simp) (by decide) fun g18 w12 hx12 hg18 hB18 => ?_
          have hlt18 := hB18.lt; have hz12 := hx12.size
          have hM18 := hB18.mem; have hz12 := hx12.size; have hE := hE.thenExt hx12; have hB14 := hB14.ext hx12
          refine WL.nil ?_
          refine hK37 _ _ ?_; try clear hK37 K37
          refine CW.seq_to (X := Unit) (fun _ => [(0, .pointer (some ⟨g, 0, none⟩)), (6, .slice (some la) lm lc), (8, .slice SA Sm Sc), (9, .int .i64 ((opsAt (rels rs) b i).at_ : Int)), (10, .int .i64 ((opsAt (rels rs) b i).kept : Int)), (11, .slice vA vm vc), (12, .int .i64 (i : Int)), (14, .pointer (some ⟨g14, 0, none⟩)), (15, .bool (gapE (rels rs) ((opsAt (rels rs) b i).kept : Int)).2.1), (17, .int .i64 (k : Int)), (18, .pointer (some ⟨g18, 0, none⟩))]) (fun _ w0 => Ext w3 w0 ∧ Own w0 TOp 37 (.slice vA vm vc) (flatO ((opsAt (rels rs) b i).out ++ (insOps (gapE (rels rs) ((opsAt (rels rs) b i).kept : Int)) (opsAt (rels rs) b i).out.length ed.text).take k)) ∧ Blk w0 g14 TRf (refC (gapE (rels rs) ((opsAt (rels rs) b i).kept : Int)).1) ∧ Blk w0 g18 TOp (opC ⟨1, putS (gapE (rels rs) ((opsAt (rels rs) b i).kept : Int)) k, putR (gapE (rels rs) ((opsAt (rels rs) b i).kept : Int)) (opsAt (rels rs) b i).out.length k, bb⟩)) ?_ ?_
          · skip
            refine CW.seq fun K39 hK39 => ?_
            refine CW.region ?_
            refine WL.val (Y.move rfl) (by decide) ?_
            refine WL.val (Y.eql rfl rfl) (by decide) ?_
            refine WL.nil ?_
            refine hK39 _ _ ?_; try clear hK39 K39
            first | refine CW.condD rfl (fun ht40 => ?_) (fun ht40 => ?_) | refine CW.condND rfl (fun ht40 => ?_) (fun ht40 => ?_) | refine CW.condN rfl (fun ht40 => ?_) (fun ht40 => ?_) | refine CW.cond rfl (fun ht40 => ?_) (fun ht40 => ?_)
            · -- then
              refine CW.seq fun K41 hK41 => ?_
              refine CW.region ?_
              refine WL.val (Y.load Try.underlying61 rfl hB14.mem (sz_apiRef _) rfl) (by decide) ?_
              refine WL.val (Y.fieldAddr fo_apiOp2 rfl) (by decide) ?_
              refine WL.store (g := g18) (pre := [.int .i64 1, .bool false]) (old := refC ⟨true, Dig.zero, (vm : Int)⟩) (post := [bc (bs ed.text)[k]]) (new := refC (gapE (rels rs) ((opsAt (rels rs) b i).kept : Int)).1) rfl rfl rfl rfl (sz_apiRef _) (by simpa [opC] using hB18) (by simp only [refC_length]) (one_refC) (fun w13 hc13 hB13_ => ?_)
              have hz13 := hc13.size; have hE := hE.step hc13 (fun k h => by omega); have hB14 := hB14.chg hc13 (fun h => by omega)
              have hB18 : Blk w13 g18 TOp ([.int .i64 1, .bool false] ++ refC (gapE (rels rs) ((opsAt (rels rs) b i).kept : Int)).1 ++ [bc (bs ed.text)[k]]) := hB13_
              refine WL.nil ?_
              refine hK41 _ _ ?_; try clear hK41 K41
              refine CW.region ?_
              refine WL.val (Y.move rfl) (by decide) ?_
              refine WL.val (Y.fieldAddr fo_apiOp1 rfl) (by decide) ?_
              refine WL.store (g := g18) (pre := [.int .i64 1]) (old := [.bool false]) (post := refC (gapE (rels rs) ((opsAt (rels rs) b i).kept : Int)).1 ++ [bc (bs ed.text)[k]]) (new := [.bool (gapE (rels rs) ((opsAt (rels rs) b i).kept : Int)).2.1]) rfl rfl rfl rfl (by kernel_rfl) (by simpa using hB18) (by first | rfl | (simp [digC_length, opC_length]; done) | (simp only [digC_length, opC_length]; omega)) (one1 rfl) (fun w14 hc14 hB14_ => ?_)
              have hz14 := hc14.size; have hE := hE.step hc14 (fun k h => by omega); have hB14 := hB14.chg hc14 (fun h => by omega)
              have hB18n : Blk w14 g18 TOp (opC ⟨1, (gapE (rels rs) ((opsAt (rels rs) b i).kept : Int)).2.1, (gapE (rels rs) ((opsAt (rels rs) b i).kept : Int)).1, bb⟩) := by rw [hbG] at hB14_; simpa [opC] using hB14_
              refine WL.nil ?_
              have hk0 : k = 0 := by omega
              subst hk0
              have hO9 := ((hO2.ext hx12).chg hc13 (fun q hq h => by have := hvl q hq; have h : q = g18 := h; omega)).chg hc14 (fun q hq h => by have := hvl q hq; have h : q = g18 := h; omega)
              have hL9 : Ext w3 w14 := ((hL2.thenExt hx12).step hc13 (fun q h => by have h : q = g18 := h; omega)).step hc14 (fun q h => by have h : q = g18 := h; omega)
              exact ⟨(), (by repeat (first | exact Fr.le.nil | refine Fr.le.cons rfl ?_)), hL9, hO9, hB14, hB18n⟩
         
            refine CW.skip ?_
            obtain ⟨hpr, hps⟩ := putR_pos (g := (gapE (rels rs) ((opsAt (rels rs) b i).kept : Int))) (n := (opsAt (rels rs) b i).out.length) (k := k) (by omega)
            exact ⟨(), (by repeat (first | exact Fr.le.nil | refine Fr.le.cons rfl ?_)), hL2.thenExt hx12, hO2.ext hx12, hB14, (by rw [hpr, hps, ← hvm, ← hbG]; exact hB18)⟩
          rintro u w15 hj15
          obtain ⟨hL3, hO3, hB14, hB18⟩ := hj15
          have hzL3 := hL3.size
          refine CW.region ?_
          refine WL.val (Y.move rfl) (by decide) ?_
          refine WL.val (Y.load Try.underlying93 rfl hB18.mem (sz_apiOp _) rfl) (by decide) ?_
          refine WL.st (St.buildSlice rfl (bs1_op ⟨1, putS (gapE (rels rs) ((opsAt (rels rs) b i).kept : Int)) k, putR (gapE (rels rs) ((opsAt (rels rs) b i).kept : Int)) (opsAt (rels rs) b i).out.length k, bb⟩)) (by decide) fun v125 w16 hR16 => ?_
          obtain ⟨gb, rfl, hgb, hBb, hxb⟩ := hR16
          have hzb := hxb.size
          have hO3 := hO3.ext hxb
          have hB14 := hB14.ext hxb
          refine WL.st (St.append (m := 1) (news := opC ⟨1, putS (gapE (rels rs) ((opsAt (rels rs) b i).kept : Int)) k, putR (gapE (rels rs) ((opsAt (rels rs) b i).kept : Int)) (opsAt (rels rs) b i).out.length k, bb⟩) Try.underlying27 Try.underlying27 ai_op rfl rfl hO3 (Fw.Src.one hBb (opC_length _)) one_opC (by rw [flat_length opC_length]; omega)) (by decide) fun v126 w17 hR17 => ?_
          obtain ⟨hO5, hc5, hf5⟩ := hR17
          have hz5 := hc5.size
          have hL5 : Ext w3 w17 := (hL3.thenExt hxb).step hc5 (fun q h => hf2 q h)
          have hB14 := hB14.chg hc5 (fun h => by
            obtain ⟨_, _, h1⟩ := hO3.kind h
            exact absurd (blk_kind h1 hB14) (by decide))
          have hf6 : ∀ q, v126.ownBlock = some q → w3.heap.size ≤ q := fun q hq => by
            rcases hf5 with h | h
            · rw [h] at hq; exact hf2 q hq
            · have := h q hq; omega
          refine WL.val (Y.assign rfl) (by decide) ?_
          refine WL.nil ?_
          refine hK36 _ _ ?_; try clear hK36 K36
          refine CW.region ?_
          refine WL.val (Y.move rfl) (by decide) ?_
          refine WL.val (Y.add rfl rfl ⟨by omega, by omega⟩) (by decide) ?_
          refine WL.val (Y.assign rfl) (by decide) ?_
          refine WL.nil ?_
          exact ⟨(k + 1, v126), by show ed.text.length - (k + 1) < ed.text.length - k; omega, (by repeat (first | exact Fr.le.nil | refine Fr.le.cons rfl ?_)), by show k + 1 ≤ ed.text.length; omega, hL5, (by show Own _ _ _ _ (flatO (_ ++ (insOps _ _ _).take (k + 1))); rw [Go.Pl.take_succ (insOps_get hbb)]; simpa [flatO] using hO5), hf6, hB14⟩
     
        refine CW.exit ?_
        obtain ⟨ha1, hk1, ho1⟩ := opsAt_put hed (by omega)
        have hke : k = ed.text.length := by omega
        subst hke
        rw [List.take_of_length_le (by rw [insOps_length]; exact Nat.le_refl _)] at hO2
        exact ⟨ov2, (by repeat (first | exact Fr.le.nil | refine Fr.le.cons rfl ?_ | refine Fr.le.cons (by show some (Value.int .i64 _) = some (Value.int .i64 _); congr 2; omega) ?_)), hL2, (by rw [ho1]; exact hO2), hf2⟩
   
      refine CW.skip ?_
      exact False.elim (by rcases hmay with ⟨h | h, _⟩ | ⟨h, _⟩ <;> omega)
    rintro u w18 hj18
    obtain ⟨hL3, hO3, hf3⟩ := hj18
    have hE := hE3.thenExt hL3
    refine CW.region ?_
    refine WL.val (Y.move rfl) (by decide) ?_
    refine WL.val (Y.add rfl rfl ⟨by omega, by omega⟩) (by decide) ?_
    refine WL.val (Y.assign rfl) (by decide) ?_
    refine WL.nil ?_
    exact ⟨(i + 1, u), by show lm - (i + 1) < lm - i; omega, (by repeat (first | exact Fr.le.nil | refine Fr.le.cons rfl ?_)), by show i + 1 ≤ lm; omega, hL3, hO3, hf3⟩
  refine CW.exit ?_
  refine hK11 _ _ ?_; try clear hK11 K11
  refine CW.seq fun K42 hK42 => ?_
  refine CW.region ?_
  refine WL.val (Y.move rfl) (by decide) ?_
  refine WL.val (Y.assign rfl) (by decide) ?_
  refine WL.val (Y.assign rfl) (by decide) ?_
  refine WL.nil ?_
  refine hK42 _ _ ?_; try clear hK42 K42
  refine CW.ret ⟨_, rfl, ?_⟩
  obtain rfl : i = lm := by omega
  have hend : (opsAt (rels rs) b i).out = opsE (rels rs) b := by rw [← hlm]; exact opsAt_end
  rw [hend] at hO
  exact ⟨ov, (by rw [hok]; rfl), (by rw [opsR, if_pos hok]; exact hO), (fun q hq => by have := hf q hq; have := hE3.size; omega), hE⟩
theorem sameOps_any (u v : Value) (xs ys : List OpD) (w : World) (hu : Sl w opC 37 u xs) (hv : Sl w opC 37 v ys) : Calls Try.prog 13 #[u, v] w (Ret fun r w' => r = .bool (decide (xs = ys)) ∧ Ext w w') := by
  obtain ⟨A, m, c, rfl, hm, hmc, hcm, hux⟩ := id hu
  obtain ⟨B, n, d, rfl, hn, hnd, hdm, hvx⟩ := id hv
  unfold maxLen at hcm hdm
  refine calls_of_CW 26 [4] [(0, .slice A m c), (1, .slice B n d)] Try.func13 rfl rfl rfl (by simp) args2 ?_
  have hE : Ext w w := Chg.refl
  refine CW.seq fun K1 hK1 => ?_
  refine CW.region ?_
  refine WL.val (Y.assign rfl) (by decide) ?_
  refine WL.nil ?_
  refine hK1 _ _ ?_; try clear hK1 K1
  refine CW.seq fun K2 hK2 => ?_
  refine CW.seq fun K3 hK3 => ?_
  refine CW.region ?_
  refine WL.val (Y.move rfl) (by decide) ?_
  refine WL.val (Y.len_slice Try.underlying27 rfl) (by decide) ?_
  refine WL.val (Y.move rfl) (by decide) ?_
  refine WL.val (Y.len_slice Try.underlying27 rfl) (by decide) ?_
  refine WL.val (Y.neq rfl rfl) (by decide) ?_
  refine WL.nil ?_
  refine hK3 _ _ ?_; try clear hK3 K3
  first | refine CW.condD rfl (fun ht4 => ?_) (fun ht4 => ?_) | refine CW.condND rfl (fun ht4 => ?_) (fun ht4 => ?_) | refine CW.condN rfl (fun ht4 => ?_) (fun ht4 => ?_) | refine CW.cond rfl (fun ht4 => ?_) (fun ht4 => ?_)
  · -- then
    refine CW.seq fun K5 hK5 => ?_
    refine CW.region ?_
    refine WL.val (Y.assign rfl) (by decide) ?_
    refine WL.nil ?_
    refine hK5 _ _ ?_; try clear hK5 K5
    refine CW.ret ⟨_, rfl, ?_⟩
    exact ⟨by rw [decide_eq_false (fun h => by subst h; omega)], hE⟩
  refine CW.skip ?_
  refine hK2 _ _ ?_; try clear hK2 K2
  refine CW.seq fun K6 hK6 => ?_
  refine CW.seq fun K7 hK7 => ?_
  refine CW.region ?_
  refine WL.val (Y.assign rfl) (by decide) ?_
  refine WL.nil ?_
  refine hK7 _ _ ?_; try clear hK7 K7
  refine CW.block ?_
  refine CW.loop (X := Nat) (fun x => [(0, .slice A m c), (1, .slice B n d), (5, .int .i64 (x : Int))]) (fun x w0 => x ≤ xs.length ∧ xs.take x = ys.take x ∧ Ext w w0) (fun x => xs.length - x) 0 (by repeat (first | exact Fr.le.nil | refine Fr.le.cons rfl ?_)) ⟨Nat.zero_le _, by simp, hE⟩ ?_
  intro x w1 hl1
  obtain ⟨hx, hpre, hE⟩ := hl1
  refine CW.seq fun K8 hK8 => ?_
  refine CW.seq fun K9 hK9 => ?_
  refine CW.region ?_
  refine WL.val (Y.move rfl) (by decide) ?_
  refine WL.val (Y.move rfl) (by decide) ?_
  refine WL.val (Y.len_slice Try.underlying27 rfl) (by decide) ?_
  refine WL.val (Y.lss rfl rfl) (by decide) ?_
  refine WL.nil ?_
  refine hK9 _ _ ?_; try clear hK9 K9
  first | refine CW.condD rfl (fun ht10 => ?_) (fun ht10 => ?_) | refine CW.condND rfl (fun ht10 => ?_) (fun ht10 => ?_) | refine CW.condN rfl (fun ht10 => ?_) (fun ht10 => ?_) | refine CW.cond rfl (fun ht10 => ?_) (fun ht10 => ?_)
  · -- then
    refine CW.skip ?_
    refine hK8 _ _ ?_; try clear hK8 K8
    refine CW.seq fun K11 hK11 => ?_
    refine CW.block ?_
    refine CW.seq fun K12 hK12 => ?_
    obtain ⟨px, hpx⟩ : ∃ p, xs[x]? = some p := ⟨_, List.getElem?_eq_getElem (by omega)⟩
    obtain ⟨py, hpy⟩ : ∃ p, ys[x]? = some p := ⟨_, List.getElem?_eq_getElem (by omega)⟩
    obtain ⟨a, rfl, hma⟩ := (hu.ext hE).get hpx
    obtain ⟨b, rfl, hmb⟩ := (hv.ext hE).get hpy
    refine CW.quiet (fun wq => Ext w1 wq) (by kernel_rfl) (by kernel_rfl) Chg.drew ?_
    refine QL.val (fun wq hq => Y.move rfl) (by decide) ?_
    refine QL.val (fun wq hq => Y.move rfl) (by decide) ?_
    refine QL.val (fun wq hq => Y.indexAddrN Try.underlying27 rfl rfl sz0_apiOp (by omega)) (by decide) ?_
    refine QL.val (fun wq hq => Y.load Try.underlying93 rfl (hma.ext hq) (sz_apiOp _) rfl) (by decide) ?_
    refine QL.val (fun wq hq => Y.move rfl) (by decide) ?_
    refine QL.val (fun wq hq => Y.move rfl) (by decide) ?_
    refine QL.val (fun wq hq => Y.indexAddrN Try.underlying27 rfl rfl sz0_apiOp (by omega)) (by decide) ?_
    refine QL.val (fun wq hq => Y.load Try.underlying93 rfl (hmb.ext hq) (sz_apiOp _) rfl) (by decide) ?_
    refine QL.val (fun wq hq => Y.neq_apiOp rfl rfl) (by decide) ?_
    refine QL.nil fun w2 hx2 => ?_
    have hz2 := hx2.size
    have hE := hE.thenExt hx2
    refine hK12 _ _ ?_; try clear hK12 K12
    first | refine CW.condD rfl (fun ht13 => ?_) (fun ht13 => ?_) | refine CW.condND rfl (fun ht13 => ?_) (fun ht13 => ?_) | refine CW.condN rfl (fun ht13 => ?_) (fun ht13 => ?_) | refine CW.cond rfl (fun ht13 => ?_) (fun ht13 => ?_)
    · -- then
      refine CW.seq fun K14 hK14 => ?_
      refine CW.region ?_
      refine WL.val (Y.assign rfl) (by decide) ?_
      refine WL.nil ?_
      refine hK14 _ _ ?_; try clear hK14 K14
      refine CW.ret ⟨_, rfl, ?_⟩
      exact ⟨by rw [decide_eq_false (fun h => by subst h; rw [hpx] at hpy; injection hpy with hpy; subst hpy; simp at ht13)], hE⟩
 
    refine CW.skip ?_
    refine hK11 _ _ ?_; try clear hK11 K11
    refine CW.region ?_
    refine WL.val (Y.move rfl) (by decide) ?_
    refine WL.val (Y.add rfl rfl ⟨by omega, by omega⟩) (by decide) ?_
    refine WL.val (Y.assign rfl) (by decide) ?_
    refine WL.nil ?_
    have hpq : px = py := by simpa using ht13
    refine ⟨x + 1, by show xs.length - (x + 1) < xs.length - x; omega, (by repeat (first | exact Fr.le.nil | refine Fr.le.cons rfl ?_)), by show x + 1 ≤ xs.length; omega, ?_, hE⟩
    show xs.take (x + 1) = ys.take (x + 1)
    rw [Go.Pl.take_succ hpx, Go.Pl.take_succ hpy, hpre, hpq]
  refine CW.exit ?_
  refine hK6 _ _ ?_; try clear hK6 K6
  refine CW.seq fun K15 hK15 => ?_
  refine CW.region ?_
  refine WL.val (Y.assign rfl) (by decide) ?_
  refine WL.nil ?_
  refine hK15 _ _ ?_; try clear hK15 K15
  refine CW.ret ⟨_, rfl, ?_⟩
  exact ⟨by rw [decide_eq_true (by have h1 : xs.take x = xs := List.take_of_length_le (by omega); have h2 : ys.take x = ys := List.take_of_length_le (by omega); rw [← h1, ← h2]; exact hpre)], hE⟩
end Go.Proofs.Ytmndofgagngcgaa
