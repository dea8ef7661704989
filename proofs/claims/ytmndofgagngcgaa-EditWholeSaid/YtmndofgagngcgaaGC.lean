/- Several texts as one: Fd, Fh, Fi. -/
import Derived.Test.YtmndofgagngcgaaFb
import Derived.Test.YtmndofgagngcgaaQv
import Derived.Test.YtmndofgagngcgaaRg
import Derived.Test.YtmndofgagngcgaaG5
set_option linter.unusedSimpArgs false
set_option linter.unusedVariables false
/- The document's trees: the walk, Order, Seen, Text, Ref, Place, Has, walked. No condition. -/
namespace Go.Proofs.Ytmndofgagngcgaa
open Go.RowKit Go.Fw Go.Fu Go.Pl
/-- What walk does at an element. -/
def RwC (g : Nat) (ad : List Dig) (rs : List Rn) (av ev_ : Value) (i : Nat) : Prop := ∀ (w : World) (o : Value) (lo : List Nat), RtAt w g ad rs av ev_ → Own w TI8 1 o (intC lo) → (∀ q, o.ownBlock = some q → ¬ Rp g rs av ev_ q) → lo.length + (walkE (rels rs) i).length ≤ 1000000 →
  Calls Try.prog 65 #[.pointer (some ⟨g, 0, none⟩), .int .i64 (i : Int), o] w (Ret fun v w' => Own w' TI8 1 v (intC (lo ++ walkE (rels rs) i)) ∧ Chg (fun k => o.ownBlock = some k) w w' ∧ ∀ k, v.ownBlock = some k → o.ownBlock = some k ∨ w.heap.size ≤ k)

set_option maxHeartbeats 1000000 in
theorem rwalk_step (g : Nat) (ad : List Dig) (rs : List Rn) (av ev_ : Value) (i : Nat) (el : El) (lv rv : Value) (hn : rs.length ≤ 400001) (hD : Fu.Down (rels rs)) (hz : rs[i]? = some ⟨el, lv, rv⟩) (IH : ∀ c, c ∈ el.left ∨ c ∈ el.right → c < rs.length → RwC g ad rs av ev_ c) (w : World) (o : Value) (lo : List Nat) (hR : RtAt w g ad rs av ev_) (ho : Own w TI8 1 o (intC lo)) (hd : ∀ q, o.ownBlock = some q → ¬ Rp g rs av ev_ q) (hlen : lo.length + (walkE (rels rs) i).length ≤ 1000000) : Calls Try.prog 65 #[.pointer (some ⟨g, 0, none⟩), .int .i64 (i : Int), o] w (Ret fun v w' => Own w' TI8 1 v (intC (lo ++ walkE (rels rs) i)) ∧ Chg (fun k => o.ownBlock = some k) w w' ∧ ∀ k, v.ownBlock = some k → o.ownBlock = some k ∨ w.heap.size ≤ k) := by
  obtain ⟨A, m, c, rfl⟩ := hR.es.lens
  have hsl := hR.sl
  have hel : (rels rs).length = rs.length := List.length_map _
  have hmm : rs.length = m ∧ m ≤ c ∧ c ≤ maxLen := by
    obtain ⟨A', m', c', e, h1, h2, h3, _⟩ := hsl
    injection e with e1 e2 e3
    exact ⟨by omega, by omega, by omega⟩
  unfold maxLen at hmm
  have hat : ∀ i x, rs[i]? = some x → ∃ a, A = some a ∧ Mem w (a.add (i * 38)) (rC x) := fun i x hx => hsl.get hx
  have hxe : ∀ (i : Nat) (x : Rn), rs[i]? = some x → (rels rs)[i]? = some x.el := fun i x hx => by rw [List.getElem?_map, hx]; rfl
  have hil := (List.getElem?_eq_some_iff.1 hz).1
  obtain ⟨a, ha, hmz⟩ := hat i _ hz
  obtain rfl := ha
  have hzm := List.mem_of_getElem? hz
  have hkl : Own w TI8 1 lv (intC el.left) := hR.kids _ hzm true
  have hkr : Own w TI8 1 rv (intC el.right) := hR.kids _ hzm false
  obtain ⟨LA, lm, lc, rfl⟩ := hkl.lens
  obtain ⟨MA, mm, mc, rfl⟩ := hkr.lens
  obtain ⟨hll, _⟩ := int_map hkl
  obtain ⟨hrl, _⟩ := int_map hkr
  have hwe := walkE_eq hD (hxe i _ hz)
  dsimp only at hwe
  have hdn := hD i el (hxe i _ hz)
  have hle : (walkE (rels rs) i).length = (el.left.flatMap (walkE (rels rs))).length + 1 + (el.right.flatMap (walkE (rels rs))).length := by rw [hwe]; simp; omega
  have hcl := hkl.mem LA lm lc rfl
  have hcr := hkr.mem MA mm mc rfl
  unfold maxLen at hcl hcr
  refine calls_of_CW 58 [6] [(0, .pointer (some ⟨g, 0, none⟩)), (1, .int .i64 (i : Int)), (2, o)] Try.func65 rfl rfl rfl (by simp) args3 ?_
  have hE : Ext w w := Chg.refl
  refine CW.seq fun K1 hK1 => ?_
  refine CW.region ?_
  refine WL.val (Y.assign rfl) (by decide) ?_
  refine WL.nil ?_
  refine hK1 _ _ ?_; try clear hK1 K1
  refine CW.seq fun K2 hK2 => ?_
  refine CW.region ?_
  refine WL.val (Y.move rfl) (by decide) ?_
  refine WL.val (Y.nilCheck rfl) (by decide) ?_
  refine WL.val (Y.fieldAddr fo_recensionref08Tree1 rfl) (by decide) ?_
  refine WL.val (Y.load1 Try.underlying89 rfl hR.blk.mem.recensionref08Tree1 rfl) (by decide) ?_
  refine WL.val (Y.move rfl) (by decide) ?_
  refine WL.val (Y.indexAddrN Try.underlying89 rfl rfl sz0_recensionref08Elem (by omega)) (by decide) ?_
  refine WL.val (Y.fieldAddr fo_recensionref08Elem3 rfl) (by decide) ?_
  refine WL.val (Y.load1 Try.underlying84 rfl hmz.recensionref08Elem3 rfl) (by decide) ?_
  refine WL.val (Y.assign rfl) (by decide) ?_
  refine WL.nil ?_
  refine hK2 _ _ ?_; try clear hK2 K2
  refine CW.seq fun K3 hK3 => ?_
  refine CW.seq fun K4 hK4 => ?_
  refine CW.region ?_
  refine WL.val (Y.assign rfl) (by decide) ?_
  refine WL.nil ?_
  refine hK4 _ _ ?_; try clear hK4 K4
  refine CW.block ?_
  refine CW.loop (X := Nat × Value) (fun x => [(0, .pointer (some ⟨g, 0, none⟩)), (1, .int .i64 (i : Int)), (2, x.2), (7, .slice LA lm lc), (8, .int .i64 (x.1 : Int))]) (fun x w0 => x.1 ≤ lm ∧ Own w0 TI8 1 x.2 (intC (lo ++ (el.left.take x.1).flatMap (walkE (rels rs)))) ∧ Chg (fun q => o.ownBlock = some q) w w0 ∧ ∀ q, x.2.ownBlock = some q → o.ownBlock = some q ∨ w.heap.size ≤ q) (fun x => lm - x.1) (0, o) (by repeat (first | exact Fr.le.nil | refine Fr.le.cons rfl ?_)) ⟨Nat.zero_le _, (by simpa using ho), Chg.refl, (fun q hq => .inl hq)⟩ ?_
  intro x w1 hl1
  obtain ⟨k, u1⟩ := x
  dsimp only at hl1 ⊢
  obtain ⟨hkm, hO, hC, hf⟩ := hl1
  have hzC := hC.size
  have hR1 : RtAt w1 g ad rs av (.slice (some a) m c) := hR.chg hC (fun q hq h => hd q h hq)
  have hd1 : ∀ q, u1.ownBlock = some q → ¬ Rp g rs av (.slice (some a) m c) q := fun q hq h => by
    rcases hf q hq with h1 | h1
    · exact hd q h1 h
    · have := hR.lt h; omega
  refine CW.seq fun K5 hK5 => ?_
  refine CW.seq fun K6 hK6 => ?_
  refine CW.region ?_
  refine WL.val (Y.move rfl) (by decide) ?_
  refine WL.val (Y.move rfl) (by decide) ?_
  refine WL.val (Y.len_slice Try.underlying84 rfl) (by decide) ?_
  refine WL.val (Y.lss rfl rfl) (by decide) ?_
  refine WL.nil ?_
  refine hK6 _ _ ?_; try clear hK6 K6
  first | refine CW.condD rfl (fun ht7 => ?_) (fun ht7 => ?_) | refine CW.condND rfl (fun ht7 => ?_) (fun ht7 => ?_) | refine CW.condN rfl (fun ht7 => ?_) (fun ht7 => ?_) | refine CW.cond rfl (fun ht7 => ?_) (fun ht7 => ?_)
  · -- then
    refine CW.skip ?_
    refine hK5 _ _ ?_; try clear hK5 K5
    refine CW.seq fun K8 hK8 => ?_
    refine CW.block ?_
    obtain ⟨b, hb⟩ : ∃ b, el.left[k]? = some b := ⟨_, List.getElem?_eq_getElem (by omega)⟩
    have hbm := List.mem_of_getElem? hb
    have hbl : b < rs.length := by have := hdn b (.inl hbm); omega
    obtain ⟨a2, rfl, hma⟩ := (int_map ((hR1.kids _ hzm true))).2 k b hb
    have hfl := flat_take_le (f := walkE (rels rs)) hb
    refine CW.region ?_
    refine WL.val (Y.move rfl) (by decide) ?_
    refine WL.val (Y.move rfl) (by decide) ?_
    refine WL.val (Y.move rfl) (by decide) ?_
    refine WL.val (Y.indexAddrN Try.underlying84 rfl rfl sz0_int (by omega)) (by decide) ?_
    refine WL.val (Y.load1 Try.underlying3 rfl hma.cell0 rfl) (by decide) ?_
    refine WL.val (Y.move rfl) (by decide) ?_
    refine WL.call Try.func65 rfl rfl rfl (IH b (.inl hbm) hbl _ u1 _ hR1 hO hd1 (by rw [List.length_append]; omega)) (by simp) ?_; rintro v31 w2 hR2
    obtain ⟨hO2, hc2, hf2⟩ := hR2
    have hz2 := hc2.size
    refine WL.val (Y.assign rfl) (by decide) ?_
    refine WL.nil ?_
    refine hK8 _ _ ?_; try clear hK8 K8
    refine CW.region ?_
    refine WL.val (Y.move rfl) (by decide) ?_
    refine WL.val (Y.add rfl rfl ⟨by omega, by omega⟩) (by decide) ?_
    refine WL.val (Y.assign rfl) (by decide) ?_
    refine WL.nil ?_
    have htk := flat_takeS (f := walkE (rels rs)) hb
    exact ⟨(k + 1, v31), (by show lm - (k + 1) < lm - k; omega), (by repeat (first | exact Fr.le.nil | refine Fr.le.cons rfl ?_)), (by show k + 1 ≤ lm; omega), (by show Own _ _ _ _ (intC (lo ++ (el.left.take (k + 1)).flatMap (walkE (rels rs)))); rw [htk, ← List.append_assoc]; exact hO2), hC.stepO hc2 (fun q hq => hf q hq), (fun q hq => by
      rcases hf2 q hq with h | h
      · exact hf q h
      · exact .inr (by omega))⟩
  refine CW.exit ?_
  refine hK3 _ _ ?_; try clear hK3 K3
  refine CW.seq fun K9 hK9 => ?_
  refine CW.region ?_
  refine WL.val (Y.move rfl) (by decide) ?_
  refine WL.val (Y.move rfl) (by decide) ?_
  refine WL.st (St.buildSlice rfl (bs1_int _)) (by decide) fun v34 w3 hR3 => ?_
  have hke : el.left.take k = el.left := List.take_of_length_le (by omega)
  rw [hke] at hO
  obtain ⟨g34, rfl, hg34, hB34, hx3⟩ := hR3
  have hz3 := hx3.size
  refine WL.st (St.append (m := 1) (news := intC [i]) UI UI ai_int rfl rfl (hO.ext hx3) (Fw.Src.one hB34 rfl) one_intC (by rw [intC_length, List.length_append]; omega)) (by decide) fun v35 w4 hR4 => ?_
  obtain ⟨hO4, hc4, hf4⟩ := hR4
  have hz4 := hc4.size
  rw [← intC_app] at hO4
  have hC4 : Chg (fun q => o.ownBlock = some q) w w4 := (hC.thenExt hx3).stepO hc4 (fun q hq => hf q hq)
  have hf5 : ∀ q, v35.ownBlock = some q → o.ownBlock = some q ∨ w.heap.size ≤ q := fun q hq => by
    rcases hf4 with h | h
    · rw [h] at hq; exact hf q hq
    · exact .inr (by have := h q hq; omega)
  have hR4 : RtAt w4 g ad rs av (.slice (some a) m c) := hR.chg hC4 (fun q hq h => hd q h hq)
  obtain ⟨a4, ha4, hmz4⟩ := hR4.sl.get hz
  obtain rfl := Option.some.inj ha4
  refine WL.val (Y.assign rfl) (by decide) ?_
  refine WL.nil ?_
  refine hK9 _ _ ?_; try clear hK9 K9
  refine CW.seq fun K10 hK10 => ?_
  refine CW.region ?_
  refine WL.val (Y.move rfl) (by decide) ?_
  refine WL.val (Y.nilCheck rfl) (by decide) ?_
  refine WL.val (Y.fieldAddr fo_recensionref08Tree1 rfl) (by decide) ?_
  refine WL.val (Y.load1 Try.underlying89 rfl hR4.blk.mem.recensionref08Tree1 rfl) (by decide) ?_
  refine WL.val (Y.move rfl) (by decide) ?_
  refine WL.val (Y.indexAddrN Try.underlying89 rfl rfl sz0_recensionref08Elem (by omega)) (by decide) ?_
  refine WL.val (Y.fieldAddr fo_recensionref08Elem4 rfl) (by decide) ?_
  refine WL.val (Y.load1 Try.underlying84 rfl hmz4.recensionref08Elem4 rfl) (by decide) ?_
  refine WL.val (Y.assign rfl) (by decide) ?_
  refine WL.nil ?_
  refine hK10 _ _ ?_; try clear hK10 K10
  refine CW.seq fun K11 hK11 => ?_
  refine CW.seq fun K12 hK12 => ?_
  refine CW.region ?_
  refine WL.val (Y.assign rfl) (by decide) ?_
  refine WL.nil ?_
  refine hK12 _ _ ?_; try clear hK12 K12
  refine CW.block ?_
  refine CW.loop (X := Nat × Value) (fun x => [(0, .pointer (some ⟨g, 0, none⟩)), (1, .int .i64 (i : Int)), (2, x.2), (9, .slice MA mm mc), (10, .int .i64 (x.1 : Int))]) (fun x w0 => x.1 ≤ mm ∧ Own w0 TI8 1 x.2 (intC (lo ++ el.left.flatMap (walkE (rels rs)) ++ [i] ++ (el.right.take x.1).flatMap (walkE (rels rs)))) ∧ Chg (fun q => o.ownBlock = some q) w w0 ∧ ∀ q, x.2.ownBlock = some q → o.ownBlock = some q ∨ w.heap.size ≤ q) (fun x => mm - x.1) (0, v35) (by repeat (first | exact Fr.le.nil | refine Fr.le.cons rfl ?_)) ⟨Nat.zero_le _, (by simpa using hO4), hC4, hf5⟩ ?_
  intro x w5 hl5
  obtain ⟨k, u1⟩ := x
  dsimp only at hl5 ⊢
  obtain ⟨hkm, hO, hC, hf⟩ := hl5
  have hzC := hC.size
  have hR1 : RtAt w5 g ad rs av (.slice (some a) m c) := hR.chg hC (fun q hq h => hd q h hq)
  have hd1 : ∀ q, u1.ownBlock = some q → ¬ Rp g rs av (.slice (some a) m c) q := fun q hq h => by
    rcases hf q hq with h1 | h1
    · exact hd q h1 h
    · have := hR.lt h; omega
  refine CW.seq fun K13 hK13 => ?_
  refine CW.seq fun K14 hK14 => ?_
  refine CW.region ?_
  refine WL.val (Y.move rfl) (by decide) ?_
  refine WL.val (Y.move rfl) (by decide) ?_
  refine WL.val (Y.len_slice Try.underlying84 rfl) (by decide) ?_
  refine WL.val (Y.lss rfl rfl) (by decide) ?_
  refine WL.nil ?_
  refine hK14 _ _ ?_; try clear hK14 K14
  first | refine CW.condD rfl (fun ht15 => ?_) (fun ht15 => ?_) | refine CW.condND rfl (fun ht15 => ?_) (fun ht15 => ?_) | refine CW.condN rfl (fun ht15 => ?_) (fun ht15 => ?_) | refine CW.cond rfl (fun ht15 => ?_) (fun ht15 => ?_)
  · -- then
    refine CW.skip ?_
    refine hK13 _ _ ?_; try clear hK13 K13
    refine CW.seq fun K16 hK16 => ?_
    refine CW.block ?_
    obtain ⟨b, hb⟩ : ∃ b, el.right[k]? = some b := ⟨_, List.getElem?_eq_getElem (by omega)⟩
    have hbm := List.mem_of_getElem? hb
    have hbl : b < rs.length := by have := hdn b (.inr hbm); omega
    obtain ⟨a2, rfl, hma⟩ := (int_map ((hR1.kids _ hzm false))).2 k b hb
    have hfl := flat_take_le (f := walkE (rels rs)) hb
    refine CW.region ?_
    refine WL.val (Y.move rfl) (by decide) ?_
    refine WL.val (Y.move rfl) (by decide) ?_
    refine WL.val (Y.move rfl) (by decide) ?_
    refine WL.val (Y.indexAddrN Try.underlying84 rfl rfl sz0_int (by omega)) (by decide) ?_
    refine WL.val (Y.load1 Try.underlying3 rfl hma.cell0 rfl) (by decide) ?_
    refine WL.val (Y.move rfl) (by decide) ?_
    refine WL.call Try.func65 rfl rfl rfl (IH b (.inr hbm) hbl _ u1 _ hR1 hO hd1 (by simp only [List.length_append, List.length_singleton]; omega)) (by simp) ?_; rintro v56 w6 hR6
    obtain ⟨hO2, hc2, hf2⟩ := hR6
    have hz2 := hc2.size
    refine WL.val (Y.assign rfl) (by decide) ?_
    refine WL.nil ?_
    refine hK16 _ _ ?_; try clear hK16 K16
    refine CW.region ?_
    refine WL.val (Y.move rfl) (by decide) ?_
    refine WL.val (Y.add rfl rfl ⟨by omega, by omega⟩) (by decide) ?_
    refine WL.val (Y.assign rfl) (by decide) ?_
    refine WL.nil ?_
    have htk := flat_takeS (f := walkE (rels rs)) hb
    exact ⟨(k + 1, v56), (by show mm - (k + 1) < mm - k; omega), (by repeat (first | exact Fr.le.nil | refine Fr.le.cons rfl ?_)), (by show k + 1 ≤ mm; omega), (by show Own _ _ _ _ (intC (lo ++ el.left.flatMap (walkE (rels rs)) ++ [i] ++ (el.right.take (k + 1)).flatMap (walkE (rels rs)))); rw [htk, ← List.append_assoc]; exact hO2), hC.stepO hc2 (fun q hq => hf q hq), (fun q hq => by
      rcases hf2 q hq with h | h
      · exact hf q h
      · exact .inr (by omega))⟩
  refine CW.exit ?_
  refine hK11 _ _ ?_; try clear hK11 K11
  refine CW.seq fun K17 hK17 => ?_
  refine CW.region ?_
  refine WL.val (Y.move rfl) (by decide) ?_
  refine WL.val (Y.assign rfl) (by decide) ?_
  refine WL.nil ?_
  refine hK17 _ _ ?_; try clear hK17 K17
  refine CW.ret ⟨_, rfl, ?_⟩
  have hke : el.right.take k = el.right := List.take_of_length_le (by omega)
  rw [hke] at hO
  exact ⟨by rw [hwe]; simpa using hO, hC, hf⟩
end Go.Proofs.Ytmndofgagngcgaa

/- The document's trees: Order, Seen, Ref, Place, Has, walked. No condition. -/
namespace Go.Proofs.Ytmndofgagngcgaa
open Go.RowKit Go.Fw Go.Fu Go.Pl
theorem rwalk_all (g : Nat) (ad : List Dig) (rs : List Rn) (av ev_ : Value) (hn : rs.length ≤ 400001) (hD : Fu.Down (rels rs)) : ∀ i, i < rs.length → RwC g ad rs av ev_ i := by
  have hel : (rels rs).length = rs.length := List.length_map _
  intro i hi
  refine down_ind hD (P := RwC g ad rs av ev_) (fun i x hx IH => ?_) i (by omega)
  have hil := (List.getElem?_eq_some_iff.1 hx).1
  obtain ⟨z, hz⟩ : ∃ z, rs[i]? = some z := ⟨_, List.getElem?_eq_getElem (by omega)⟩
  rw [List.getElem?_map, hz] at hx
  obtain rfl := Option.some.inj hx
  obtain ⟨el, lv, rv⟩ := z
  intro w o lo hR ho hd hl
  exact rwalk_step g ad rs av ev_ i el lv rv hn hD hz (fun c hc hcl => IH c hc (by omega)) w o lo hR ho hd hl

theorem rorder_any (g : Nat) (ad : List Dig) (rs : List Rn) (av ev_ : Value) (w : World) (hR : RtAt w g ad rs av ev_) (hG : Fu.Good (rels rs)) (hn : rs.length ≤ 400001) : Calls Try.prog 54 #[.pointer (some ⟨g, 0, none⟩)] w (Ret fun v w' => Own w' TI8 1 v (intC (orderE (rels rs))) ∧ (∀ k, v.ownBlock = some k → w.heap.size ≤ k) ∧ Ext w w') := by
  have hpos := hG.pos
  have hel : (rels rs).length = rs.length := List.length_map _
  have hol : (orderE (rels rs)).length = rs.length := by
    have := hG.perm.length_eq
    rwa [List.length_range, hel] at this
  refine calls_of_CW 5 [2] [(0, .pointer (some ⟨g, 0, none⟩))] Try.func54 rfl rfl rfl (by simp) args1 ?_
  have hE : Ext w w := Chg.refl
  refine CW.seq fun K1 hK1 => ?_
  refine CW.region ?_
  refine WL.val (Y.assign rfl) (by decide) ?_
  refine WL.nil ?_
  refine hK1 _ _ ?_; try clear hK1 K1
  refine CW.seq fun K2 hK2 => ?_
  refine CW.region ?_
  refine WL.val (Y.move rfl) (by decide) ?_
  refine WL.call Try.func65 rfl rfl rfl (rwalk_all g ad rs av ev_ hn hG.down 0 (by omega) _ (.slice none 0 0) [] (hR.ext hE) Own.nil (fun q h => by simp [Value.ownBlock] at h) (by show 0 + (orderE (rels rs)).length ≤ _; omega)) (by simp) ?_; rintro v4 w1 hR1
  obtain ⟨hO1, hc1, hf1⟩ := hR1
  have hz1 := hc1.size
  have hE := hE.step hc1 (fun q h => by simp [Value.ownBlock] at h)
  rw [List.nil_append] at hO1
  refine WL.val (Y.assign rfl) (by decide) ?_
  refine WL.nil ?_
  refine hK2 _ _ ?_; try clear hK2 K2
  refine CW.ret ⟨_, rfl, ?_⟩
  exact ⟨hO1, (fun k hk => by
    rcases hf1 k hk with h | h
    · simp [Value.ownBlock] at h
    · exact h), hE⟩
set_option maxHeartbeats 1000000 in
theorem rseen_any (g : Nat) (ad : List Dig) (rs : List Rn) (av ev_ : Value) (w : World) (hR : RtAt w g ad rs av ev_) (hG : Fu.Good (rels rs)) (hn : rs.length ≤ 400001) : Calls Try.prog 34 #[.pointer (some ⟨g, 0, none⟩)] w (Ret fun v w' => Own w' TI8 1 v (intC (seenE (rels rs))) ∧ (∀ k, v.ownBlock = some k → w.heap.size ≤ k) ∧ Ext w w') := by
  obtain ⟨A, m, c, rfl⟩ := hR.es.lens
  have hsl := hR.sl
  have hel : (rels rs).length = rs.length := List.length_map _
  have hmm : rs.length = m ∧ m ≤ c ∧ c ≤ maxLen := by
    obtain ⟨A', m', c', e, h1, h2, h3, _⟩ := hsl
    injection e with e1 e2 e3
    exact ⟨by omega, by omega, by omega⟩
  unfold maxLen at hmm
  have hat : ∀ i x, rs[i]? = some x → ∃ a, A = some a ∧ Mem w (a.add (i * 38)) (rC x) := fun i x hx => hsl.get hx
  have hxe : ∀ (i : Nat) (x : Rn), rs[i]? = some x → (rels rs)[i]? = some x.el := fun i x hx => by rw [List.getElem?_map, hx]; rfl
  have hpos := hG.pos
  obtain ⟨x0, hx0⟩ : ∃ x, rs[0]? = some x := ⟨_, List.getElem?_eq_getElem (by omega)⟩
  obtain ⟨EA, hEA, _⟩ := hat 0 x0 hx0
  subst hEA
  have hme : ∀ i x, rs[i]? = some x → Mem w (EA.add (i * 38)) (rC x) := fun i x hx => by
    obtain ⟨a, ha, h⟩ := hat i x hx
    cases ha; exact h
  have hol : (orderE (rels rs)).length = rs.length := by
    have := hG.perm.length_eq
    rwa [List.length_range, hel] at this
  have hsn : (seenE (rels rs)).length ≤ 400001 := by
    have : (seenE (rels rs)).length ≤ (orderE (rels rs)).length := List.length_filter_le _ _
    omega
  obtain ⟨ir, hir, hzr, hsr⟩ := info_apiRef
  refine calls_of_CW 34 [2] [(0, .pointer (some ⟨g, 0, none⟩))] Try.func34 rfl rfl rfl (by simp) args1 ?_
  have hE : Ext w w := Chg.refl
  refine CW.seq fun K1 hK1 => ?_
  refine CW.region ?_
  refine WL.val (Y.assign rfl) (by decide) ?_
  refine WL.nil ?_
  refine hK1 _ _ ?_; try clear hK1 K1
  refine CW.seq fun K2 hK2 => ?_
  refine CW.region ?_
  refine WL.val (Y.move rfl) (by decide) ?_
  refine WL.call Try.func54 rfl rfl rfl (rorder_any g ad rs av _ _ (hR.ext hE) hG hn) (by simp) ?_; rintro v7 w1 hR1
  obtain ⟨hOS, hfS, hxS⟩ := hR1
  have hzS := hxS.size
  obtain ⟨SA, Sm, Sc, rfl⟩ := hOS.lens
  obtain ⟨hlmS, hlgS⟩ := int_map hOS
  have hccS := (hOS.mem SA Sm Sc rfl).2.2.2
  unfold maxLen at hccS
  have hE := hE.thenExt hxS
  refine WL.val (Y.assign rfl) (by decide) ?_
  refine WL.nil ?_
  refine hK2 _ _ ?_; try clear hK2 K2
  refine CW.seq fun K3 hK3 => ?_
  refine CW.region ?_
  refine WL.val (Y.assign rfl) (by decide) ?_
  refine WL.nil ?_
  refine hK3 _ _ ?_; try clear hK3 K3
  refine CW.seq fun K4 hK4 => ?_
  refine CW.seq fun K5 hK5 => ?_
  refine CW.region ?_
  refine WL.val (Y.assign rfl) (by decide) ?_
  refine WL.nil ?_
  refine hK5 _ _ ?_; try clear hK5 K5
  refine CW.block ?_
  refine CW.loop (X := Nat × Value) (fun x => [(0, .pointer (some ⟨g, 0, none⟩)), (3, .slice SA Sm Sc), (4, x.2), (5, .int .i64 (x.1 : Int))]) (fun x w0 => x.1 ≤ Sm ∧ Own w0 TI8 1 x.2 (intC (((orderE (rels rs)).take x.1).filter (fun j => !goneAt (rels rs) j))) ∧ (∀ q, x.2.ownBlock = some q → w1.heap.size ≤ q) ∧ Ext w1 w0) (fun x => Sm - x.1) (0, .slice none 0 0) (by repeat (first | exact Fr.le.nil | refine Fr.le.cons rfl ?_)) ⟨Nat.zero_le _, Own.nil, (fun q h => by simp [Value.ownBlock] at h), Chg.refl⟩ ?_
  intro x w2 hl2
  obtain ⟨k, u1⟩ := x
  dsimp only at hl2 ⊢
  obtain ⟨hkm, hO, hfr, hE2⟩ := hl2
  have hE := hE.thenExt hE2
  have hz2 := hE2.size
  refine CW.seq fun K6 hK6 => ?_
  refine CW.seq fun K7 hK7 => ?_
  refine CW.region ?_
  refine WL.val (Y.move rfl) (by decide) ?_
  refine WL.val (Y.move rfl) (by decide) ?_
  refine WL.val (Y.len_slice Try.underlying84 rfl) (by decide) ?_
  refine WL.val (Y.lss rfl rfl) (by decide) ?_
  refine WL.nil ?_
  refine hK7 _ _ ?_; try clear hK7 K7
  first | refine CW.condD rfl (fun ht8 => ?_) (fun ht8 => ?_) | refine CW.condND rfl (fun ht8 => ?_) (fun ht8 => ?_) | refine CW.condN rfl (fun ht8 => ?_) (fun ht8 => ?_) | refine CW.cond rfl (fun ht8 => ?_) (fun ht8 => ?_)
  · -- then
    refine CW.skip ?_
    refine hK6 _ _ ?_; try clear hK6 K6
    obtain ⟨q, hqk⟩ : ∃ q, (orderE (rels rs))[k]? = some q := ⟨_, List.getElem?_eq_getElem (by omega)⟩
    obtain ⟨oa, rfl, hmo⟩ := hlgS k q hqk
    have hql : q < rs.length := by have := hG.mem.1 (List.mem_of_getElem? hqk); omega
    obtain ⟨y, hy⟩ : ∃ y, rs[q]? = some y := ⟨_, List.getElem?_eq_getElem hql⟩
    have hye := hxe q y hy
    have hmy := hme q y hy
    have hgy : goneAt (rels rs) q = y.el.gone := goneAt_at hye
    have hts : ((orderE (rels rs)).take (k + 1)).filter (fun j => !goneAt (rels rs) j) = ((orderE (rels rs)).take k).filter (fun j => !goneAt (rels rs) j) ++ if y.el.gone = true then [] else [q] := by
      rw [Go.Pl.take_succ hqk, List.filter_append, List.filter_cons, List.filter_nil, hgy]
      cases y.el.gone <;> rfl
    have hfl : (((orderE (rels rs)).take k).filter (fun j => !goneAt (rels rs) j)).length ≤ k := Nat.le_trans (List.length_filter_le _ _) (by rw [List.length_take]; omega)
    refine CW.seq_to (X := Value) (fun u2 => [(0, .pointer (some ⟨g, 0, none⟩)), (3, .slice (some oa) Sm Sc), (4, u2), (5, .int .i64 (k : Int))]) (fun u2 w0 => Own w0 TI8 1 u2 (intC (((orderE (rels rs)).take (k + 1)).filter (fun j => !goneAt (rels rs) j))) ∧ (∀ q, u2.ownBlock = some q → w1.heap.size ≤ q) ∧ Ext w1 w0) ?_ ?_
    · skip
      refine CW.block ?_
      refine CW.seq fun K10 hK10 => ?_
      refine CW.quiet (fun wq => Ext w2 wq) (by kernel_rfl) (by kernel_rfl) Chg.drew ?_
      refine QL.val (fun wq hq => Y.move rfl) (by decide) ?_
      refine QL.val (fun wq hq => Y.nilCheck rfl) (by decide) ?_
      refine QL.val (fun wq hq => Y.fieldAddr fo_recensionref08Tree1 rfl) (by decide) ?_
      refine QL.val (fun wq hq => Y.load1 Try.underlying89 rfl (((hR.ext hE).ext hq).blk.mem.recensionref08Tree1) rfl) (by decide) ?_
      refine QL.val (fun wq hq => Y.move rfl) (by decide) ?_
      refine QL.val (fun wq hq => Y.move rfl) (by decide) ?_
      refine QL.val (fun wq hq => Y.indexAddrN Try.underlying84 rfl rfl sz0_int (by omega)) (by decide) ?_
      refine QL.val (fun wq hq => Y.load1 Try.underlying3 rfl (((hmo.ext hE2).ext hq).cell0) rfl) (by decide) ?_
      refine QL.val (fun wq hq => Y.indexAddrN Try.underlying89 rfl rfl sz0_recensionref08Elem (by omega)) (by decide) ?_
      refine QL.val (fun wq hq => Y.fieldAddr fo_recensionref08Elem2 rfl) (by decide) ?_
      refine QL.val (fun wq hq => Y.load1 Try.underlying4 rfl (((hmy.ext hE).ext hq).recensionref08Elem2) rfl) (by decide) ?_
      refine QL.val (fun wq hq => Y.not rfl) (by decide) ?_
      refine QL.nil fun w3 hx3 => ?_
      have hz3 := hx3.size
      have hE := hE.thenExt hx3
      refine hK10 _ _ ?_; try clear hK10 K10
      first | refine CW.condD rfl (fun ht11 => ?_) (fun ht11 => ?_) | refine CW.condND rfl (fun ht11 => ?_) (fun ht11 => ?_) | refine CW.condN rfl (fun ht11 => ?_) (fun ht11 => ?_) | refine CW.cond rfl (fun ht11 => ?_) (fun ht11 => ?_)
      · -- then
        refine CW.region ?_
        refine WL.val (Y.move rfl) (by decide) ?_
        refine WL.val (Y.move rfl) (by decide) ?_
        refine WL.val (Y.move rfl) (by decide) ?_
        refine WL.val (Y.indexAddrN Try.underlying84 rfl rfl sz0_int (by omega)) (by decide) ?_
        refine WL.val (Y.load1 Try.underlying3 rfl (((hmo.ext hE2).ext hx3).cell0) rfl) (by decide) ?_
        refine WL.st (St.buildSlice rfl (bs1_int _)) (by decide) fun v31 w4 hR4 => ?_
        obtain ⟨g31, rfl, hg31, hB31, hx4⟩ := hR4
        have hz4 := hx4.size
        have hE4 := (hE2.thenExt hx3).thenExt hx4
        have hzE := hE.size
        refine WL.st (St.append (m := 1) (news := intC [q]) UI UI ai_int rfl rfl ((hO.ext hx3).ext hx4) (Fw.Src.one hB31 rfl) one_intC (by rw [intC_length]; omega)) (by decide) fun v32 w5 hR5 => ?_
        obtain ⟨hO5, hc5, hf5⟩ := hR5
        have hz5 := hc5.size
        rw [← intC_app] at hO5
        refine WL.val (Y.assign rfl) (by decide) ?_
        refine WL.nil ?_
        exact ⟨v32, (by repeat (first | exact Fr.le.nil | refine Fr.le.cons rfl ?_)), (by rw [hts, if_neg (by simp_all)]; exact hO5), (fun b hb => by rcases hf5 with e | e; rw [e] at hb; exact hfr b hb; have := e b hb; omega), hE4.step hc5 (fun b hb => hfr b hb)⟩
   
      refine CW.skip ?_
      exact ⟨u1, (by repeat (first | exact Fr.le.nil | refine Fr.le.cons rfl ?_)), (by rw [hts, if_pos (by simp_all), List.append_nil]; exact hO.ext hx3), hfr, hE2.thenExt hx3⟩
    rintro u w6 hj6
    obtain ⟨hO, hfr, hE2⟩ := hj6
    have hE := hxS.thenExt hE2
    refine CW.region ?_
    refine WL.val (Y.move rfl) (by decide) ?_
    refine WL.val (Y.add rfl rfl ⟨by omega, by omega⟩) (by decide) ?_
    refine WL.val (Y.assign rfl) (by decide) ?_
    refine WL.nil ?_
    exact ⟨(k + 1, u), (by show Sm - (k + 1) < Sm - k; omega), (by repeat (first | exact Fr.le.nil | refine Fr.le.cons rfl ?_)), (by show k + 1 ≤ Sm; omega), hO, hfr, hE2⟩
  refine CW.exit ?_
  refine hK4 _ _ ?_; try clear hK4 K4
  refine CW.seq fun K12 hK12 => ?_
  refine CW.region ?_
  refine WL.val (Y.move rfl) (by decide) ?_
  refine WL.val (Y.assign rfl) (by decide) ?_
  refine WL.nil ?_
  refine hK12 _ _ ?_; try clear hK12 K12
  refine CW.ret ⟨_, rfl, ?_⟩
  have hke : (orderE (rels rs)).take k = (orderE (rels rs)) := List.take_of_length_le (by omega)
  rw [hke] at hO
  exact ⟨hO, (fun q hq => by have := hfr q hq; omega), hE⟩
end Go.Proofs.Ytmndofgagngcgaa

/- The document's trees: Gap, Text, walked. No condition. -/
namespace Go.Proofs.Ytmndofgagngcgaa
open Go.RowKit Go.Fw Go.Fu Go.Pl
theorem mi_u8 : MakeInfo Try.prog 5 [bc 0] 1 := by
  have h : (Try.prog.info? 5).map (fun i => (i.size, i.bytes, i.zero)) = some (1, 1, some (bc 0)) := by kernel_rfl
  obtain ⟨i, hi, h⟩ := Option.map_eq_some_iff.1 h
  injection h with h1 h2
  injection h2 with h2 h3
  exact ⟨i, _, hi, h3, rfl, h1, h2⟩
theorem rep_bytes (m : Nat) : (List.replicate m [bc 0]).flatten = bytesC (List.replicate m 0) := by
  induction m with
  | zero => rfl
  | succ m ih => rw [List.replicate_succ, List.replicate_succ, List.flatten_cons, ih]; rfl

set_option maxRecDepth 100000 in
set_option maxHeartbeats 1000000 in
theorem rgap_any (g : Nat) (ad : List Dig) (rs : List Rn) (av ev_ : Value) (n : Int) (w : World) (hR : RtAt w g ad rs av ev_) (hG : Fu.Good (rels rs)) (hn : rs.length ≤ 400001) : Calls Try.prog 35 #[.pointer (some ⟨g, 0, none⟩), .int .i64 n] w (Ret fun v w' => v = .tuple #[refV (gapE (rels rs) n).1, .bool (gapE (rels rs) n).2.1, .bool (gapE (rels rs) n).2.2] ∧ Ext w w') := by
  obtain ⟨A, m, c, rfl⟩ := hR.es.lens
  have hsl := hR.sl
  have hel : (rels rs).length = rs.length := List.length_map _
  have hmm : rs.length = m ∧ m ≤ c ∧ c ≤ maxLen := by
    obtain ⟨A', m', c', e, h1, h2, h3, _⟩ := hsl
    injection e with e1 e2 e3
    exact ⟨by omega, by omega, by omega⟩
  unfold maxLen at hmm
  have hat : ∀ i x, rs[i]? = some x → ∃ a, A = some a ∧ Mem w (a.add (i * 38)) (rC x) := fun i x hx => hsl.get hx
  have hxe : ∀ (i : Nat) (x : Rn), rs[i]? = some x → (rels rs)[i]? = some x.el := fun i x hx => by rw [List.getElem?_map, hx]; rfl
  have hpos := hG.pos
  obtain ⟨x0, hx0⟩ : ∃ x, rs[0]? = some x := ⟨_, List.getElem?_eq_getElem (by omega)⟩
  obtain ⟨EA, hEA, _⟩ := hat 0 x0 hx0
  subst hEA
  have hme : ∀ i x, rs[i]? = some x → Mem w (EA.add (i * 38)) (rC x) := fun i x hx => by
    obtain ⟨a, ha, h⟩ := hat i x hx
    cases ha; exact h
  have hol : (orderE (rels rs)).length = rs.length := by
    have := hG.perm.length_eq
    rwa [List.length_range, hel] at this
  have hsn : (seenE (rels rs)).length ≤ 400001 := by
    have : (seenE (rels rs)).length ≤ (orderE (rels rs)).length := List.length_filter_le _ _
    omega
  obtain ⟨ir, hir, hzr, hsr⟩ := info_apiRef
  refine calls_of_CWct 74 4 34 [5, 6] [(0, .pointer (some ⟨g, 0, none⟩)), (1, .int .i64 n)] Try.func35 rfl rfl rfl Try.underlying61 rfl (by kernel_rfl) (by simp) args2 ?_
  have hE : Ext w w := Chg.refl
  refine CW.seq fun K1 hK1 => ?_
  refine CW.region ?_
  refine WL.alloc (hir) (hzr) rfl (by decide) fun g4 w1 hx1 hg4 hB4 => ?_
  have hlt4 := hB4.lt; have hz1 := hx1.size
  have hM4 := hB4.mem; have hz1 := hx1.size; have hE := hE.thenExt hx1
  refine WL.val (Y.assign rfl) (by decide) ?_
  refine WL.val (Y.assign rfl) (by decide) ?_
  refine WL.nil ?_
  refine hK1 _ _ ?_; try clear hK1 K1
  refine CW.seq fun K2 hK2 => ?_
  refine CW.region ?_
  refine WL.val (Y.move rfl) (by decide) ?_
  refine WL.call Try.func34 rfl rfl rfl (rseen_any g ad rs av _ _ (hR.ext hE) hG hn) (by simp) ?_; rintro v12 w2 hR2
  obtain ⟨hOS, hfS, hxS⟩ := hR2
  have hzS := hxS.size
  obtain ⟨SA, Sm, Sc, rfl⟩ := hOS.lens
  obtain ⟨hlmS, hlgS⟩ := int_map hOS
  have hccS := (hOS.mem SA Sm Sc rfl).2.2.2
  unfold maxLen at hccS
  have hE := hE.thenExt hxS
  have hB4 := hB4.ext hxS
  refine WL.val (Y.assign rfl) (by decide) ?_
  refine WL.nil ?_
  refine hK2 _ _ ?_; try clear hK2 K2
  refine CW.seq fun K3 hK3 => ?_
  refine CW.seq_test 20 (n < 0 ∨ (Sm : Int) < n) ?_ ?_
  · refine CW.region ?_
    refine WL.val (Y.move rfl) (by decide) ?_
    refine WL.val (Y.lss rfl rfl) (by decide) ?_
    refine WL.val (Y.move rfl) (by decide) ?_
    first | refine WL.casesD (d := 15) rfl (fun hg15 => ?_) (fun hg15 => ?_) | refine WL.casesND (d := 15) rfl (fun hg15 => ?_) (fun hg15 => ?_) | refine WL.cases (d := 15) rfl (fun hg15 => ?_) (fun hg15 => ?_)
    · -- t15 = T
      refine WL.goff rfl rfl (by decide) ?_
      refine WL.goff rfl rfl (by decide) ?_
      refine WL.goff rfl rfl (by decide) ?_
      refine WL.goff rfl rfl (by decide) ?_
      refine WL.val (Y.pick rfl rfl) (by decide) ?_
      refine WL.nil ⟨⟨_, rfl, ?_⟩, rfl, (by repeat (first | exact Fr.le.refl | refine Fr.le.push rfl ?_))⟩
      first | (simp only [*, Int.natCast_inj, Bool.not_eq_true', decide_eq_false_iff_not, decide_eq_true_eq, not_true_eq_false, not_false_eq_true, true_and, false_and, and_true, and_false, false_or, or_false, true_or, or_true, iff_true, true_iff, iff_false, false_iff]; done) | (simp_all; done) | (refine congrArg Value.bool (Bool.eq_iff_iff.2 ?_); simp_all; done) | (simp_all; omega)
    · -- t15 = F
      refine WL.gval rfl rfl (Y.move rfl) (by decide) ?_
      refine WL.gval rfl rfl (Y.move rfl) (by decide) ?_
      refine WL.gval rfl rfl (Y.len_slice Try.underlying84 rfl) (by decide) ?_
      refine WL.gval rfl rfl (Y.gtr rfl rfl) (by decide) ?_
      refine WL.val (Y.pick rfl rfl) (by decide) ?_
      refine WL.nil ⟨⟨_, rfl, ?_⟩, rfl, (by repeat (first | exact Fr.le.refl | refine Fr.le.push rfl ?_))⟩
      first | (simp only [*, Int.natCast_inj, Bool.not_eq_true', decide_eq_false_iff_not, decide_eq_true_eq, not_true_eq_false, not_false_eq_true, true_and, false_and, and_true, and_false, false_or, or_false, true_or, or_true, iff_true, true_iff, iff_false, false_iff]; done) | (simp_all; done) | (refine congrArg Value.bool (Bool.eq_iff_iff.2 ?_); simp_all; done) | (simp_all; omega)
  first | refine CW.condD rfl (fun ht4 => ?_) (fun ht4 => ?_) | refine CW.condND rfl (fun ht4 => ?_) (fun ht4 => ?_) | refine CW.condN rfl (fun ht4 => ?_) (fun ht4 => ?_) | refine CW.cond rfl (fun ht4 => ?_) (fun ht4 => ?_)
  · -- then
    refine CW.seq fun K5 hK5 => ?_
    refine CW.region ?_
    refine WL.val (Y.build0 (build_apiRef _)) (by decide) ?_
    refine WL.store (g := g4) (pre := []) (old := refC RefD.zero) (post := []) (new := refC RefD.zero) rfl rfl rfl rfl (sz_apiRef _) (by simpa using hB4) (by simp only [refC_length]) (one_refC) (fun w3 hc3 hB3_ => ?_)
    have hz3 := hc3.size; have hE := hE.step hc3 (fun k h => by omega)
    have hB4 : Blk w3 g4 61 (refC RefD.zero) := by simpa using hB3_
    refine WL.val (Y.assign rfl) (by decide) ?_
    refine WL.val (Y.assign rfl) (by decide) ?_
    refine WL.nil ?_
    refine hK5 _ _ ?_; try clear hK5 K5
    refine CW.ret ?_
    exact ⟨_, _, _, rfl, hB4.mem, refC_length _, rfl, ⟨by rw [gapE, if_pos (by rw [hlmS]; assumption)], hE⟩⟩
  refine CW.skip ?_
  refine hK3 _ _ ?_; try clear hK3 K3
  refine CW.seq fun K6 hK6 => ?_
  refine CW.region ?_
  refine WL.val (Y.assign rfl) (by decide) ?_
  refine WL.nil ?_
  refine hK6 _ _ ?_; try clear hK6 K6
  refine CW.seq_to (X := Unit) (fun _ => [(0, .pointer (some ⟨g, 0, none⟩)), (4, .pointer (some ⟨g4, 0, none⟩)), (8, .int .i64 ((gapI (rels rs) n) : Int))]) (fun _ w0 => w0 = w2) ?_ ?_
  · skip
    refine CW.seq fun K8 hK8 => ?_
    refine CW.region ?_
    refine WL.val (Y.move rfl) (by decide) ?_
    refine WL.val (Y.gtr rfl rfl) (by decide) ?_
    refine WL.nil ?_
    refine hK8 _ _ ?_; try clear hK8 K8
    first | refine CW.condD rfl (fun ht9 => ?_) (fun ht9 => ?_) | refine CW.condND rfl (fun ht9 => ?_) (fun ht9 => ?_) | refine CW.condN rfl (fun ht9 => ?_) (fun ht9 => ?_) | refine CW.cond rfl (fun ht9 => ?_) (fun ht9 => ?_)
    · -- then
      obtain ⟨i, rfl⟩ : ∃ i : Nat, n = (i : Int) + 1 := ⟨(n - 1).toNat, by omega⟩
      obtain ⟨q, hqk⟩ : ∃ q, (seenE (rels rs))[i]? = some q := ⟨_, List.getElem?_eq_getElem (by omega)⟩
      obtain ⟨oa, rfl, hmo⟩ := hlgS i q hqk
      have hql : q < rs.length := by have := seen_lt hG.down (List.mem_of_getElem? hqk); omega
      obtain ⟨y, hy⟩ : ∃ y, rs[q]? = some y := ⟨_, List.getElem?_eq_getElem hql⟩
      have hye := hxe q y hy
      have hmy := hme q y hy
      refine CW.region ?_
      refine WL.val (Y.move rfl) (by decide) ?_
      refine WL.val (Y.move rfl) (by decide) ?_
      refine WL.val (Y.sub rfl rfl ⟨by omega, by omega⟩) (by decide) ?_
      rw [show ((i : Int) + 1 - 1) = (i : Int) by omega]
      refine WL.val (Y.indexAddrN Try.underlying84 rfl rfl sz0_int (by omega)) (by decide) ?_
      refine WL.val (Y.load1 Try.underlying3 rfl hmo.cell0 rfl) (by decide) ?_
      refine WL.val (Y.assign rfl) (by decide) ?_
      refine WL.nil ?_
      exact ⟨(), (by rw [show gapI (rels rs) ((i : Int) + 1) = q by rw [gapI, if_neg (by omega), show ((i : Int) + 1 - 1).toNat = i by omega, hqk]; rfl]; exact (by repeat (first | exact Fr.le.nil | refine Fr.le.cons rfl ?_))), rfl⟩
 
    refine CW.skip ?_
    exact ⟨(), (by rw [show gapI (rels rs) n = 0 by rw [gapI, if_pos (by omega)]]; exact (by repeat (first | exact Fr.le.nil | refine Fr.le.cons rfl ?_))), rfl⟩
  rintro u w4 hj4
  obtain rfl := hj4
  have hgl : (gapI (rels rs) n) < rs.length := by rw [← hel]; exact gapI_lt hG (by omega) (by omega)
  obtain ⟨y0, hy0⟩ : ∃ y, rs[(gapI (rels rs) n)]? = some y := ⟨_, List.getElem?_eq_getElem hgl⟩
  have hye0 := hxe _ y0 hy0
  have hmy0 := hme _ y0 hy0
  have hkk := hR.kids y0 (List.mem_of_getElem? hy0) false
  obtain ⟨el0, lv0, rv0⟩ := y0
  obtain ⟨KA, km, kc, rfl⟩ : ∃ A m c, rv0 = .slice A m c := hkk.lens
  dsimp only at hye0
  obtain ⟨hkm0, _⟩ := int_map hkk
  have hkm0 : el0.right.length = km := hkm0
  have hgE : gapE (rels rs) n = ((gapAt (rels rs) (gapI (rels rs) n)).1, (gapAt (rels rs) (gapI (rels rs) n)).2, true) := by rw [gapE, if_neg (by rw [hlmS]; assumption)]
  refine CW.seq fun K10 hK10 => ?_
  refine CW.seq fun K11 hK11 => ?_
  refine CW.region ?_
  refine WL.val (Y.move rfl) (by decide) ?_
  refine WL.val (Y.nilCheck rfl) (by decide) ?_
  refine WL.val (Y.fieldAddr fo_recensionref08Tree1 rfl) (by decide) ?_
  refine WL.val (Y.load1 Try.underlying89 rfl ((hR.ext hE).blk.mem.recensionref08Tree1) rfl) (by decide) ?_
  refine WL.val (Y.move rfl) (by decide) ?_
  refine WL.val (Y.indexAddrN Try.underlying89 rfl rfl sz0_recensionref08Elem (by omega)) (by decide) ?_
  refine WL.val (Y.fieldAddr fo_recensionref08Elem4 rfl) (by decide) ?_
  refine WL.val (Y.load1 Try.underlying84 rfl ((hmy0.ext hE).recensionref08Elem4) rfl) (by decide) ?_
  refine WL.val (Y.len_slice Try.underlying84 rfl) (by decide) ?_
  refine WL.val (Y.eql rfl rfl) (by decide) ?_
  refine WL.nil ?_
  refine hK11 _ _ ?_; try clear hK11 K11
  first | refine CW.condD rfl (fun ht12 => ?_) (fun ht12 => ?_) | refine CW.condND rfl (fun ht12 => ?_) (fun ht12 => ?_) | refine CW.condN rfl (fun ht12 => ?_) (fun ht12 => ?_) | refine CW.cond rfl (fun ht12 => ?_) (fun ht12 => ?_)
  · -- then
    refine CW.seq fun K13 hK13 => ?_
    refine CW.region ?_
    refine WL.val (Y.move rfl) (by decide) ?_
    refine WL.val (Y.nilCheck rfl) (by decide) ?_
    refine WL.val (Y.fieldAddr fo_recensionref08Tree1 rfl) (by decide) ?_
    refine WL.val (Y.load1 Try.underlying89 rfl ((hR.ext hE).blk.mem.recensionref08Tree1) rfl) (by decide) ?_
    refine WL.val (Y.move rfl) (by decide) ?_
    refine WL.val (Y.indexAddrN Try.underlying89 rfl rfl sz0_recensionref08Elem (by omega)) (by decide) ?_
    refine WL.val (Y.fieldAddr fo_recensionref08Elem0 rfl) (by decide) ?_
    refine WL.val (Y.load Try.underlying61 rfl ((hmy0.ext hE).recensionref08Elem0) (sz_apiRef _) rfl) (by decide) ?_
    refine WL.store (g := g4) (pre := []) (old := refC RefD.zero) (post := []) (new := refC el0.name) rfl rfl rfl rfl (sz_apiRef _) (by simpa using hB4) (by simp only [refC_length]) (one_refC) (fun w5 hc5 hB5_ => ?_)
    have hz5 := hc5.size; have hE := hE.step hc5 (fun k h => by omega)
    have hB4 : Blk w5 g4 61 (refC el0.name) := by simpa using hB5_
    refine WL.val (Y.assign rfl) (by decide) ?_
    refine WL.val (Y.assign rfl) (by decide) ?_
    refine WL.nil ?_
    refine hK13 _ _ ?_; try clear hK13 K13
    refine CW.ret ?_
    exact ⟨_, _, _, rfl, hB4.mem, refC_length _, rfl, ⟨by rw [hgE, gapAt, hye0]; have h9 : el0.right = [] := List.length_eq_zero_iff.1 (by omega); simp only [Option.map_some, Option.getD_some, h9, nm_at hye0], hE⟩⟩
  refine CW.skip ?_
  refine hK10 _ _ ?_; try clear hK10 K10
  refine CW.seq fun K14 hK14 => ?_
  obtain ⟨c0, r0, hrc⟩ : ∃ c r, el0.right = c :: r := by
    cases hr : el0.right with
    | nil => rw [hr] at hkm0; simp at hkm0; omega
    | cons c r => exact ⟨c, r, rfl⟩
  have hga : gapAt (rels rs) (gapI (rels rs) n) = (nm (rels rs) (lmE (rels rs) c0), true) := by rw [gapAt, hye0]; simp only [Option.map_some, Option.getD_some, hrc]
  have hfol := order_fol hG.down (a := (gapI (rels rs) n)) (c := c0) (r := r0) (by rw [hye0]; simp [hrc]) 0 (by omega)
  refine CW.region ?_
  refine WL.val (Y.move rfl) (by decide) ?_
  refine WL.call Try.func54 rfl rfl rfl (rorder_any g ad rs av _ _ (hR.ext hE) hG hn) (by simp) ?_; rintro v48 w6 hR6
  obtain ⟨hOT, hfT, hxT⟩ := hR6
  have hzT := hxT.size
  obtain ⟨TA, Tm, Tc, rfl⟩ := hOT.lens
  obtain ⟨hlmT, hlgT⟩ := int_map hOT
  have hccT := (hOT.mem TA Tm Tc rfl).2.2.2
  unfold maxLen at hccT
  have hE := hE.thenExt hxT
  have hB4 := hB4.ext hxT
  refine WL.val (Y.assign rfl) (by decide) ?_
  refine WL.nil ?_
  refine hK14 _ _ ?_; try clear hK14 K14
  refine CW.seq fun K15 hK15 => ?_
  refine CW.seq fun K16 hK16 => ?_
  refine CW.region ?_
  refine WL.val (Y.assign rfl) (by decide) ?_
  refine WL.nil ?_
  refine hK16 _ _ ?_; try clear hK16 K16
  refine CW.block ?_
  refine CW.loop (X := Nat) (fun x => [(0, .pointer (some ⟨g, 0, none⟩)), (4, .pointer (some ⟨g4, 0, none⟩)), (8, .int .i64 ((gapI (rels rs) n) : Int)), (9, .slice TA Tm Tc), (10, .int .i64 (x : Int))]) (fun x w0 => x ≤ Tm ∧ (∀ (t p : Nat), t < x → (orderE (rels rs))[t]? = some p → p ≠ (gapI (rels rs) n)) ∧ Ext w6 w0) (fun x => Tm - x) 0 (by repeat (first | exact Fr.le.nil | refine Fr.le.cons rfl ?_)) ⟨Nat.zero_le _, (fun t p h => by omega), Chg.refl⟩ ?_
  intro x w7 hl7
  obtain ⟨hkm, hno, hL⟩ := hl7
  have hE := hE.thenExt hL
  have hB4 := hB4.ext hL
  refine CW.seq fun K17 hK17 => ?_
  refine CW.seq fun K18 hK18 => ?_
  refine CW.region ?_
  refine WL.val (Y.move rfl) (by decide) ?_
  refine WL.val (Y.move rfl) (by decide) ?_
  refine WL.val (Y.len_slice Try.underlying84 rfl) (by decide) ?_
  refine WL.val (Y.lss rfl rfl) (by decide) ?_
  refine WL.nil ?_
  refine hK18 _ _ ?_; try clear hK18 K18
  first | refine CW.condD rfl (fun ht19 => ?_) (fun ht19 => ?_) | refine CW.condND rfl (fun ht19 => ?_) (fun ht19 => ?_) | refine CW.condN rfl (fun ht19 => ?_) (fun ht19 => ?_) | refine CW.cond rfl (fun ht19 => ?_) (fun ht19 => ?_)
  · -- then
    refine CW.skip ?_
    refine hK17 _ _ ?_; try clear hK17 K17
    refine CW.seq fun K20 hK20 => ?_
    refine CW.block ?_
    refine CW.seq fun K21 hK21 => ?_
    obtain ⟨q, hqk⟩ : ∃ q, (orderE (rels rs))[x]? = some q := ⟨_, List.getElem?_eq_getElem (by omega)⟩
    obtain ⟨oa, rfl, hmo⟩ := hlgT x q hqk
    have hql : q < rs.length := by have := hG.mem.1 (List.mem_of_getElem? hqk); omega
    obtain ⟨y, hy⟩ : ∃ y, rs[q]? = some y := ⟨_, List.getElem?_eq_getElem hql⟩
    have hye := hxe q y hy
    have hmy := hme q y hy
    refine CW.region ?_
    refine WL.val (Y.move rfl) (by decide) ?_
    refine WL.val (Y.move rfl) (by decide) ?_
    refine WL.val (Y.indexAddrN Try.underlying84 rfl rfl sz0_int (by omega)) (by decide) ?_
    refine WL.val (Y.load1 Try.underlying3 rfl ((hmo.ext hL).cell0) rfl) (by decide) ?_
    refine WL.val (Y.move rfl) (by decide) ?_
    refine WL.val (Y.eql rfl rfl) (by decide) ?_
    refine WL.nil ?_
    refine hK21 _ _ ?_; try clear hK21 K21
    first | refine CW.condD rfl (fun ht22 => ?_) (fun ht22 => ?_) | refine CW.condND rfl (fun ht22 => ?_) (fun ht22 => ?_) | refine CW.condN rfl (fun ht22 => ?_) (fun ht22 => ?_) | refine CW.cond rfl (fun ht22 => ?_) (fun ht22 => ?_)
    · -- then
      refine CW.seq fun K23 hK23 => ?_
      have hqa : q = (gapI (rels rs) n) := by omega
      obtain ⟨zz, hzz⟩ := hfol ((orderE (rels rs)).take x) ((orderE (rels rs)).drop (x + 1)) (by rw [← hqa]; show (orderE (rels rs)) = _; have h9 := (List.getElem?_eq_some_iff.1 hqk); rw [← h9.2, ← List.drop_eq_getElem_cons, List.take_append_drop])
      have hlm1 : (orderE (rels rs))[x + 1]? = some (lmE (rels rs) c0) := by
        have h9 : ((orderE (rels rs)).drop (x + 1))[0]? = some (lmE (rels rs) c0) := by rw [hzz]; rfl
        rwa [List.getElem?_drop, Nat.add_zero] at h9
      have hx1l := (List.getElem?_eq_some_iff.1 hlm1).1
      obtain ⟨oa2, hoa2, hmo2⟩ := hlgT (x + 1) _ hlm1
      obtain rfl := Option.some.inj hoa2
      have hql2 : lmE (rels rs) c0 < rs.length := by have := hG.mem.1 (List.mem_of_getElem? hlm1); omega
      obtain ⟨y2, hy2⟩ : ∃ y, rs[lmE (rels rs) c0]? = some y := ⟨_, List.getElem?_eq_getElem hql2⟩
      have hye2 := hxe _ y2 hy2
      have hmy2 := hme _ y2 hy2
      refine CW.head 12 (by kernel_rfl) (by kernel_rfl) fun w8 hx8 => ?_
      skip; have hz8 := hx8.size; have hE := hE.thenExt hx8; have hB4 := hB4.ext hx8
      refine HL.val (Y.move rfl) (by decide) ?_
      refine HL.val (Y.nilCheck rfl) (by decide) ?_
      refine HL.val (Y.fieldAddr fo_recensionref08Tree1 rfl) (by decide) ?_
      refine HL.val (Y.load1 Try.underlying89 rfl ((hR.ext hE).blk.mem.recensionref08Tree1) rfl) (by decide) ?_
      refine HL.val (Y.move rfl) (by decide) ?_
      refine HL.val (Y.move rfl) (by decide) ?_
      refine HL.val (Y.add rfl rfl ⟨by omega, by omega⟩) (by decide) ?_
      rw [show ((x : Int) + 1) = ((x + 1 : Nat) : Int) by omega]
      refine HL.val (Y.indexAddrN Try.underlying84 rfl rfl sz0_int (by omega)) (by decide) ?_
      refine HL.val (Y.load1 Try.underlying3 rfl ((hmo2.ext (hL.thenExt hx8)).cell0) rfl) (by decide) ?_
      refine HL.val (Y.indexAddrN Try.underlying89 rfl rfl sz0_recensionref08Elem (by omega)) (by decide) ?_
      refine HL.val (Y.fieldAddr fo_recensionref08Elem0 rfl) (by decide) ?_
      refine HL.val (Y.load Try.underlying61 rfl ((hmy2.ext hE).recensionref08Elem0) (sz_apiRef _) rfl) (by decide) ?_
      refine HL.nil ?_
      refine WL.store (g := g4) (pre := []) (old := refC RefD.zero) (post := []) (new := refC y2.el.name) rfl rfl rfl rfl (sz_apiRef _) (by simpa using hB4) (by simp only [refC_length]) (one_refC) (fun w9 hc9 hB9_ => ?_)
      have hz9 := hc9.size; have hE := hE.step hc9 (fun k h => by omega)
      have hB4 : Blk w9 g4 61 (refC y2.el.name) := by simpa using hB9_
      refine WL.val (Y.assign rfl) (by decide) ?_
      refine WL.val (Y.assign rfl) (by decide) ?_
      refine WL.nil ?_
      refine hK23 _ _ ?_; try clear hK23 K23
      refine CW.ret ?_
      exact ⟨_, _, _, rfl, hB4.mem, refC_length _, rfl, ⟨by rw [hgE, hga, nm_at hye2], hE⟩⟩
 
    refine CW.skip ?_
    refine hK20 _ _ ?_; try clear hK20 K20
    refine CW.region ?_
    refine WL.val (Y.move rfl) (by decide) ?_
    refine WL.val (Y.add rfl rfl ⟨by omega, by omega⟩) (by decide) ?_
    refine WL.val (Y.assign rfl) (by decide) ?_
    refine WL.nil ?_
    exact ⟨x + 1, (by show Tm - (x + 1) < Tm - x; omega), (by repeat (first | exact Fr.le.nil | refine Fr.le.cons rfl ?_)), (by show x + 1 ≤ Tm; omega), (fun t p ht hp => by
      by_cases e : t = x
      · subst e; rw [hqk] at hp; cases hp; omega
      · exact hno t p (by omega) hp), hL⟩
  refine CW.exit ?_
  refine hK15 _ _ ?_; try clear hK15 K15
  refine CW.seq fun K24 hK24 => ?_
  exfalso
  obtain ⟨t, ht⟩ := List.mem_iff_getElem?.1 (hG.mem.2 (show (gapI (rels rs) n) < (rels rs).length by omega))
  exact hno t _ (by have := (List.getElem?_eq_some_iff.1 ht).1; omega) ht rfl

set_option maxRecDepth 100000 in
set_option maxHeartbeats 1000000 in
theorem rtext_any (g : Nat) (ad : List Dig) (rs : List Rn) (av ev_ : Value) (w : World) (hR : RtAt w g ad rs av ev_) (hG : Fu.Good (rels rs)) (hn : rs.length ≤ 400001) : Calls Try.prog 15 #[.pointer (some ⟨g, 0, none⟩)] w (Ret fun v w' => v = .string (bs (textE (rels rs))) ∧ Ext w w') := by
  obtain ⟨A, m, c, rfl⟩ := hR.es.lens
  have hsl := hR.sl
  have hel : (rels rs).length = rs.length := List.length_map _
  have hmm : rs.length = m ∧ m ≤ c ∧ c ≤ maxLen := by
    obtain ⟨A', m', c', e, h1, h2, h3, _⟩ := hsl
    injection e with e1 e2 e3
    exact ⟨by omega, by omega, by omega⟩
  unfold maxLen at hmm
  have hat : ∀ i x, rs[i]? = some x → ∃ a, A = some a ∧ Mem w (a.add (i * 38)) (rC x) := fun i x hx => hsl.get hx
  have hxe : ∀ (i : Nat) (x : Rn), rs[i]? = some x → (rels rs)[i]? = some x.el := fun i x hx => by rw [List.getElem?_map, hx]; rfl
  have hpos := hG.pos
  obtain ⟨x0, hx0⟩ : ∃ x, rs[0]? = some x := ⟨_, List.getElem?_eq_getElem (by omega)⟩
  obtain ⟨EA, hEA, _⟩ := hat 0 x0 hx0
  subst hEA
  have hme : ∀ i x, rs[i]? = some x → Mem w (EA.add (i * 38)) (rC x) := fun i x hx => by
    obtain ⟨a, ha, h⟩ := hat i x hx
    cases ha; exact h
  have hol : (orderE (rels rs)).length = rs.length := by
    have := hG.perm.length_eq
    rwa [List.length_range, hel] at this
  have hsn : (seenE (rels rs)).length ≤ 400001 := by
    have : (seenE (rels rs)).length ≤ (orderE (rels rs)).length := List.length_filter_le _ _
    omega
  obtain ⟨ir, hir, hzr, hsr⟩ := info_apiRef
  refine calls_of_CW 33 [2] [(0, .pointer (some ⟨g, 0, none⟩))] Try.func15 rfl rfl rfl (by simp) args1 ?_
  have hE : Ext w w := Chg.refl
  refine CW.seq fun K1 hK1 => ?_
  refine CW.region ?_
  refine WL.val (Y.assign rfl) (by decide) ?_
  refine WL.nil ?_
  refine hK1 _ _ ?_; try clear hK1 K1
  refine CW.seq fun K2 hK2 => ?_
  refine CW.region ?_
  refine WL.val (Y.move rfl) (by decide) ?_
  refine WL.call Try.func34 rfl rfl rfl (rseen_any g ad rs av _ _ (hR.ext hE) hG hn) (by simp) ?_; rintro v7 w1 hR1
  obtain ⟨hOS, hfS, hxS⟩ := hR1
  have hzS := hxS.size
  obtain ⟨SA, Sm, Sc, rfl⟩ := hOS.lens
  obtain ⟨hlmS, hlgS⟩ := int_map hOS
  have hccS := (hOS.mem SA Sm Sc rfl).2.2.2
  unfold maxLen at hccS
  have hE := hE.thenExt hxS
  refine WL.val (Y.assign rfl) (by decide) ?_
  refine WL.nil ?_
  refine hK2 _ _ ?_; try clear hK2 K2
  refine CW.seq fun K3 hK3 => ?_
  refine CW.region ?_
  refine WL.val (Y.move rfl) (by decide) ?_
  refine WL.val (Y.len_slice Try.underlying84 rfl) (by decide) ?_
  refine WL.st (St.makeK (m := Sm) Try.underlying96 mi_u8 rfl rfl (by omega) (by omega)) (by decide) fun v10 w2 hR2 => ?_
  obtain ⟨bg, rfl, hbg, hBb, hx2⟩ := hR2
  have hz2 := hx2.size
  rw [rep_bytes] at hBb
  have hE := hE.thenExt hx2
  refine WL.val (Y.assign rfl) (by decide) ?_
  refine WL.nil ?_
  refine hK3 _ _ ?_; try clear hK3 K3
  refine CW.seq fun K4 hK4 => ?_
  refine CW.seq fun K5 hK5 => ?_
  refine CW.region ?_
  refine WL.val (Y.assign rfl) (by decide) ?_
  refine WL.nil ?_
  refine hK5 _ _ ?_; try clear hK5 K5
  refine CW.block ?_
  refine CW.loop (X := Nat) (fun x => [(0, .pointer (some ⟨g, 0, none⟩)), (3, .slice SA Sm Sc), (4, .slice (some ⟨bg, 0, none⟩) Sm Sm), (5, .int .i64 (x : Int))]) (fun x w0 => x ≤ Sm ∧ Blk w0 bg 5 (bytesC (((seenE (rels rs)).take x).map (byteAt (rels rs)) ++ List.replicate (Sm - x) 0)) ∧ Ext w1 w0) (fun x => Sm - x) 0 (by repeat (first | exact Fr.le.nil | refine Fr.le.cons rfl ?_)) ⟨Nat.zero_le _, (by simpa using hBb), hx2⟩ ?_
  intro x w3 hl3
  obtain ⟨hkm, hBb, hL⟩ := hl3
  have hE := hxS.thenExt hL
  have hzL := hL.size
  refine CW.seq fun K6 hK6 => ?_
  refine CW.seq fun K7 hK7 => ?_
  refine CW.region ?_
  refine WL.val (Y.move rfl) (by decide) ?_
  refine WL.val (Y.move rfl) (by decide) ?_
  refine WL.val (Y.len_slice Try.underlying84 rfl) (by decide) ?_
  refine WL.val (Y.lss rfl rfl) (by decide) ?_
  refine WL.nil ?_
  refine hK7 _ _ ?_; try clear hK7 K7
  first | refine CW.condD rfl (fun ht8 => ?_) (fun ht8 => ?_) | refine CW.condND rfl (fun ht8 => ?_) (fun ht8 => ?_) | refine CW.condN rfl (fun ht8 => ?_) (fun ht8 => ?_) | refine CW.cond rfl (fun ht8 => ?_) (fun ht8 => ?_)
  · -- then
    refine CW.skip ?_
    refine hK6 _ _ ?_; try clear hK6 K6
    refine CW.seq fun K9 hK9 => ?_
    refine CW.block ?_
    obtain ⟨q, hqk⟩ : ∃ q, (seenE (rels rs))[x]? = some q := ⟨_, List.getElem?_eq_getElem (by omega)⟩
    obtain ⟨oa, rfl, hmo⟩ := hlgS x q hqk
    have hql : q < rs.length := by have := seen_lt hG.down (List.mem_of_getElem? hqk); omega
    obtain ⟨y, hy⟩ : ∃ y, rs[q]? = some y := ⟨_, List.getElem?_eq_getElem hql⟩
    have hye := hxe q y hy
    have hmy := hme q y hy
    have hsm : Sm - x = (Sm - (x + 1)) + 1 := by omega
    have htl : ((seenE (rels rs)).take x).length = x := by rw [List.length_take]; omega
    refine CW.head 14 (by kernel_rfl) (by kernel_rfl) fun w4 hx4 => ?_
    skip; have hz4 := hx4.size; have hE := hE.thenExt hx4
    refine HL.val (Y.move rfl) (by decide) ?_
    refine HL.val (Y.move rfl) (by decide) ?_
    refine HL.val (Y.move rfl) (by decide) ?_
    refine HL.val (Y.nilCheck rfl) (by decide) ?_
    refine HL.val (Y.fieldAddr fo_recensionref08Tree1 rfl) (by decide) ?_
    refine HL.val (Y.load1 Try.underlying89 rfl ((hR.ext hE).blk.mem.recensionref08Tree1) rfl) (by decide) ?_
    refine HL.val (Y.move rfl) (by decide) ?_
    refine HL.val (Y.move rfl) (by decide) ?_
    refine HL.val (Y.indexAddrN Try.underlying84 rfl rfl sz0_int (by omega)) (by decide) ?_
    refine HL.val (Y.load1 Try.underlying3 rfl ((hmo.ext (hL.thenExt hx4)).cell0) rfl) (by decide) ?_
    refine HL.val (Y.indexAddrN Try.underlying89 rfl rfl sz0_recensionref08Elem (by omega)) (by decide) ?_
    refine HL.val (Y.fieldAddr fo_recensionref08Elem1 rfl) (by decide) ?_
    refine HL.val (Y.load1 Try.underlying5 rfl ((hmy.ext hE).recensionref08Elem1) rfl) (by decide) ?_
    refine HL.val (Y.indexAddrN Try.underlying96 rfl rfl sz0_uint8 (by omega)) (by decide) ?_
    refine HL.nil ?_
    refine WL.store (g := bg) (pre := bytesC (((seenE (rels rs)).take x).map (byteAt (rels rs)))) (old := [bc 0]) (post := bytesC (List.replicate (Sm - (x + 1)) 0)) (new := [.int .u8 (y.el.byte.toNat : Int)]) rfl (by rw [Nat.mul_one, add_zero', bytesC_length, List.length_map, htl]) rfl rfl (by kernel_rfl) (by have h9 := hBb.ext hx4; rw [hsm, List.replicate_succ, bytesC_append] at h9; simpa [bytesC] using h9) (by first | rfl | (simp [digC_length, opC_length]; done) | (simp only [digC_length, opC_length]; omega)) (one1 rfl) (fun w5 hc5 hB5_ => ?_)
    have hz5 := hc5.size; have hE := hE.step hc5 (fun k h => by omega)
    have hL5 : Ext w1 w5 := (hL.thenExt hx4).step hc5 (fun k h => by omega)
    have hBb5 : Blk w5 bg 5 (bytesC (((seenE (rels rs)).take (x + 1)).map (byteAt (rels rs)) ++ List.replicate (Sm - (x + 1)) 0)) := by
      rw [Go.Pl.take_succ hqk, List.map_append, List.map_singleton, byteAt_at hye, bytesC_append, bytesC_append]
      simpa [bytesC, bc] using hB5_
    refine WL.nil ?_
    refine hK9 _ _ ?_; try clear hK9 K9
    refine CW.region ?_
    refine WL.val (Y.move rfl) (by decide) ?_
    refine WL.val (Y.add rfl rfl ⟨by omega, by omega⟩) (by decide) ?_
    refine WL.val (Y.assign rfl) (by decide) ?_
    refine WL.nil ?_
    exact ⟨x + 1, (by show Sm - (x + 1) < Sm - x; omega), (by repeat (first | exact Fr.le.nil | refine Fr.le.cons rfl ?_)), (by show x + 1 ≤ Sm; omega), hBb5, hL5⟩
  refine CW.exit ?_
  refine hK4 _ _ ?_; try clear hK4 K4
  refine CW.seq fun K10 hK10 => ?_
  have hxe2 : x = Sm := by omega
  subst hxe2
  rw [Nat.sub_self, List.replicate_zero, List.append_nil, List.take_of_length_le (by omega)] at hBb
  refine CW.region ?_
  refine WL.val (Y.move rfl) (by decide) ?_
  refine WL.val (Y.bytes_string Try.underlying96 Try.underlying5 Try.underlying9 rfl (l := textE (rels rs)) (by rw [textE, List.length_map]; exact hlmS) (fun _ => ⟨_, rfl, hBb.mem⟩) (fun h => by cases h)) (by decide) ?_
  refine WL.val (Y.assign rfl) (by decide) ?_
  refine WL.nil ?_
  refine hK10 _ _ ?_; try clear hK10 K10
  refine CW.ret ⟨_, rfl, ?_⟩
  exact ⟨rfl, hE⟩
end Go.Proofs.Ytmndofgagngcgaa
