/- The document's trees: New, Find, ahead, put, walked. No condition. -/
import Derived.Test.YtmndofgagngcgaaG5
import Derived.Test.YtmndofgagngcgaaG6
import Derived.Test.YtmndofgagngcgaaG4
set_option linter.unusedSimpArgs false
set_option linter.unusedVariables false
namespace Go.Fu
open Go.Fw Go.Pl
def findV (e : List El) (r : RefD) : Int := match atE e r with
  | some i => (i : Int)
  | none => -1
theorem findV_some {e : List El} {r : RefD} {i : Nat} {x : El} (hx : e[i]? = some x) (hn : x.name = r) (hb : ∀ (j : Nat) (y : El), j < i → e[j]? = some y → y.name ≠ r) : findV e r = (i : Int) := by
  rw [findV, atE_some.2 ⟨x, hx, hn, hb⟩]
theorem findV_none {e : List El} {r : RefD} (hb : ∀ (j : Nat) (y : El), j < e.length → e[j]? = some y → y.name ≠ r) : findV e r = -1 := by
  have : atE e r = none := atE_none.2 fun x hx => by
    obtain ⟨j, hj⟩ := List.mem_iff_getElem?.1 hx
    exact hb j x (List.getElem?_eq_some_iff.1 hj).1 hj
  rw [findV, this]
/-- put, as the document goes about it. -/
def pstep (f : Nat → Bool) (n : Nat) (s : List Nat × Bool) (y : Nat) : List Nat × Bool := if s.2 = false ∧ f y = true then (s.1 ++ [n] ++ [y], true) else (s.1 ++ [y], s.2)
theorem pstep_done {f : Nat → Bool} {n : Nat} : ∀ (l o : List Nat), l.foldl (pstep f n) (o, true) = (o ++ l, true)
  | [], o => by simp
  | y :: r, o => by
    rw [List.foldl_cons]
    show r.foldl (pstep f n) (pstep f n (o, true) y) = _
    have : pstep f n (o, true) y = (o ++ [y], true) := by simp [pstep]
    rw [this, pstep_done r]; simp
theorem pstep_put {f : Nat → Bool} {n : Nat} : ∀ (l o : List Nat), (if (l.foldl (pstep f n) (o, false)).2 = true then (l.foldl (pstep f n) (o, false)).1 else (l.foldl (pstep f n) (o, false)).1 ++ [n]) = o ++ putN f n l
  | [], o => by simp [putN]
  | y :: r, o => by
    rw [List.foldl_cons, putN]
    by_cases h : f y = true
    · have : pstep f n (o, false) y = (o ++ [n] ++ [y], true) := by simp [pstep, h]
      rw [this, pstep_done, if_pos rfl, if_pos h]; simp
    · have : pstep f n (o, false) y = (o ++ [y], false) := by simp [pstep, h]
      rw [this, if_neg h, pstep_put r]; simp
theorem foldl_takeS {β : Type} {g : β → Nat → β} {b : β} {l : List Nat} {k c : Nat} (h : l[k]? = some c) : (l.take (k + 1)).foldl g b = g ((l.take k).foldl g b) c := by
  rw [List.take_add_one, h]; simp
theorem pstep_len {f : Nat → Bool} {n : Nat} : ∀ (l : List Nat) (s : List Nat × Bool), (l.foldl (pstep f n) s).1.length ≤ s.1.length + 2 * l.length
  | [], s => by simp
  | y :: r, s => by
    rw [List.foldl_cons]
    have := pstep_len (f := f) (n := n) r (pstep f n s y)
    have h2 : (pstep f n s y).1.length ≤ s.1.length + 2 := by unfold pstep; split <;> simp
    simp only [List.length_cons]; omega
end Go.Fu
namespace Go.Fw
abbrev iC (m : Nat) : List Value := [.int .i64 (m : Int)]
theorem intC_flat (l : List Nat) : intC l = (l.map iC).flatten := by
  unfold intC
  induction l with
  | nil => rfl
  | cons a r ih => simp only [List.map_cons, List.flatten_cons, ih]; rfl
theorem intC_app (a b : List Nat) : intC (a ++ b) = intC a ++ intC b := by simp [intC]
theorem one_intC {l : List Nat} : ∀ u ∈ intC l, u.oneCell' = true := by
  intro u hu
  obtain ⟨m, _, rfl⟩ := List.mem_map.1 hu; rfl
theorem int_map {e : TypeId} {w : World} {l : List Nat} {A : Option Addr} {m c : Nat} (h : Own w e 1 (.slice A m c) (intC l)) : l.length = m ∧ ∀ i q, l[i]? = some q → ∃ a, A = some a ∧ Mem w (a.add (i * 1)) (iC q) := by
  have h1 := (h.mem A m c rfl).2.2.1
  rw [intC_length, Nat.mul_one] at h1
  rw [intC_flat] at h
  exact ⟨h1, fun i q hq => (h.sl (fun _ => rfl) (by decide)).get hq⟩
end Go.Fw
namespace Go.Proofs.Ytmndofgagngcgaa
open Go.RowKit Go.Fw Go.Fu Go.Pl
abbrev UI := Try.underlying84
abbrev TI8 : TypeId := 3
theorem ai_int : AppInfo Try.prog TI8 1 8 := by
  have h : (Try.prog.info? TI8).map (fun i => (i.size, i.bytes, i.zero)) = some (1, 8, some (.int .i64 0)) := by kernel_rfl
  obtain ⟨i, hi, h⟩ := Option.map_eq_some_iff.1 h
  injection h with h1 h2
  injection h2 with h2 h3
  exact ⟨i, _, hi, h3, h1, rfl, h2, by decide, by decide⟩
theorem bs1_int (c : Int) (w : World) : (Instr.buildSlice 84 1 [(0, Value.int .i64 c)].toArray).run Try.prog w = .ok (.slice (some ⟨w.heap.size, 0, none⟩) 1 1) (w.alloc (.cells [Value.int .i64 c].toArray TI8)) := by
  obtain ⟨i, z, hi, hz, hs, _, _, h0, _⟩ := ai_int
  exact run_bs1 UI hi hz (by omega) (by omega) rfl (by rw [hs]; rfl) w
theorem Own.int8 {w : World} {t : TypeId} {k : Nat} {u v : Value} {xs ys : List Value} (hu : Own w t k u xs) (hv : Own w TI8 1 v ys) (ht : t ≠ TI8) : ∀ b, u.ownBlock = some b → v.ownBlock ≠ some b := fun b hb hv' => by
  obtain ⟨_, _, h1⟩ := hu.kind hb
  obtain ⟨_, _, h2⟩ := hv.kind hv'
  rw [h1] at h2; injection h2 with h2; injection h2 with _ h2; exact ht h2

theorem rnew_any (w : World) : Calls Try.prog 27 #[] w (Ret fun v w' => ∃ g ev_, v = .pointer (some ⟨g, 0, none⟩) ∧ w.heap.size ≤ g ∧ (∀ k, ev_.ownBlock = some k → w.heap.size ≤ k) ∧ RtAt w' g [] [⟨El.root, .slice none 0 0, .slice none 0 0⟩] (.slice none 0 0) ev_ ∧ Ext w w') := by
  refine calls_of_CW 5 [0] [] Try.func27 rfl rfl rfl (by simp) args0 ?_
  have hE : Ext w w := Chg.refl
  refine CW.seq fun K1 hK1 => ?_
  refine CW.region ?_
  refine WL.val (Y.assign rfl) (by decide) ?_
  refine WL.nil ?_
  refine hK1 _ _ ?_; try clear hK1 K1
  refine CW.seq fun K2 hK2 => ?_
  refine CW.region ?_
  refine WL.val (Y.build rfl (build_elem0 _)) (by decide) ?_
  refine WL.st (St.buildSlice rfl (bs1_elem ⟨El.root, .slice none 0 0, .slice none 0 0⟩)) (by decide) fun v2 w1 hR1 => ?_
  obtain ⟨g2, rfl, hg2, hB2, hx1⟩ := hR1
  have hz1 := hx1.size
  have hE := hE.thenExt hx1
  refine WL.val (Y.build rfl (build_tree8 _ rfl _)) (by decide) ?_
  refine WL.box rfl rfl (by decide) fun g4 w2 hx2 hg4 hB4 => ?_
  have hlt4 := hB4.lt; have hz2 := hx2.size
  have hM4 := hB4.mem; have hz2 := hx2.size; have hE := hE.thenExt hx2
  refine WL.val (Y.assign rfl) (by decide) ?_
  refine WL.nil ?_
  refine hK2 _ _ ?_; try clear hK2 K2
  refine CW.ret ⟨_, rfl, ?_⟩
  exact ⟨_, _, rfl, by omega, (fun k hk => by simp [Value.ownBlock] at hk; omega), ⟨hB4, Own.nil, .inr ⟨g2, 1, 1, [], (0, 0), rfl, (by have h9 : w2.heap[g2]? = _ := hB2.ext hx2; simpa using h9), by simp [rC_length], by omega, by unfold maxLen; omega, by simp [rC_length], fun o _ => by simp⟩, fun x hx s => by
    simp at hx; subst hx; cases s <;> exact Own.nil⟩, hE⟩
theorem rfind_any (g : Nat) (ad : List Dig) (rs : List Rn) (av ev_ : Value) (r : RefD) (w : World) (hR : RtAt w g ad rs av ev_) (hn : rs.length ≤ 400001) : Calls Try.prog 48 #[.pointer (some ⟨g, 0, none⟩), refV r] w (Ret fun v w' => v = .int .i64 (findV (rels rs) r) ∧ Ext w w') := by
  obtain ⟨A, m, c, rfl⟩ := hR.es.lens
  have hsl := hR.sl
  have hel : (rels rs).length = rs.length := List.length_map _
  have hmm : rs.length = m ∧ m ≤ c ∧ c ≤ maxLen := by
    obtain ⟨A', m', c', e, h1, h2, h3, _⟩ := hsl
    injection e with e1 e2 e3
    exact ⟨by omega, by omega, by omega⟩
  unfold maxLen at hmm
  have hat : ∀ i x, rs[i]? = some x → ∃ a, A = some a ∧ Mem w (a.add (i * 38)) (rC x) := fun i x hx => hsl.get hx
  have hxe : ∀ (i : Nat) (x : Rn), rs[i]? = some x → (rels rs)[i]? = some x.el := fun i x hx => by rw [List.getElem?_map, hx]; rfl
  refine calls_of_CW 26 [4] [(0, .pointer (some ⟨g, 0, none⟩)), (1, refV r)] Try.func48 rfl rfl rfl (by simp) args2 ?_
  have hE : Ext w w := Chg.refl
  refine CW.seq fun K1 hK1 => ?_
  refine CW.region ?_
  refine WL.box rfl rfl (by decide) fun g3 w1 hx1 hg3 hB3 => ?_
  have hlt3 := hB3.lt; have hz1 := hx1.size
  have hM3 := hB3.mem; have hz1 := hx1.size; have hE := hE.thenExt hx1
  refine WL.val (Y.assign rfl) (by decide) ?_
  refine WL.nil ?_
  refine hK1 _ _ ?_; try clear hK1 K1
  refine CW.seq fun K2 hK2 => ?_
  refine CW.seq fun K3 hK3 => ?_
  refine CW.region ?_
  refine WL.val (Y.assign rfl) (by decide) ?_
  refine WL.nil ?_
  refine hK3 _ _ ?_; try clear hK3 K3
  refine CW.block ?_
  refine CW.loop (X := Nat) (fun x => [(0, .pointer (some ⟨g, 0, none⟩)), (3, .pointer (some ⟨g3, 0, none⟩)), (5, .int .i64 (x : Int))]) (fun x w0 => x ≤ rs.length ∧ (∀ (j : Nat) (y : El), j < x → (rels rs)[j]? = some y → y.name ≠ r) ∧ Ext w1 w0) (fun x => rs.length - x) 0 (by repeat (first | exact Fr.le.nil | refine Fr.le.cons rfl ?_)) ⟨Nat.zero_le _, (fun j y h => by omega), Chg.refl⟩ ?_
  intro x w2 hl2
  obtain ⟨hxm, hno, hL⟩ := hl2
  have hE := hE.thenExt hL
  have hB3 := hB3.ext hL
  have hR2 := hR.ext hE
  refine CW.seq fun K4 hK4 => ?_
  refine CW.seq fun K5 hK5 => ?_
  refine CW.region ?_
  refine WL.val (Y.move rfl) (by decide) ?_
  refine WL.val (Y.move rfl) (by decide) ?_
  refine WL.val (Y.nilCheck rfl) (by decide) ?_
  refine WL.val (Y.fieldAddr fo_recensionref08Tree1 rfl) (by decide) ?_
  refine WL.val (Y.load1 Try.underlying89 rfl hR2.blk.mem.recensionref08Tree1 rfl) (by decide) ?_
  refine WL.val (Y.len_slice Try.underlying89 rfl) (by decide) ?_
  refine WL.val (Y.lss rfl rfl) (by decide) ?_
  refine WL.nil ?_
  refine hK5 _ _ ?_; try clear hK5 K5
  first | refine CW.condD rfl (fun ht6 => ?_) (fun ht6 => ?_) | refine CW.condND rfl (fun ht6 => ?_) (fun ht6 => ?_) | refine CW.condN rfl (fun ht6 => ?_) (fun ht6 => ?_) | refine CW.cond rfl (fun ht6 => ?_) (fun ht6 => ?_)
  · -- then
    refine CW.skip ?_
    refine hK4 _ _ ?_; try clear hK4 K4
    refine CW.seq fun K7 hK7 => ?_
    refine CW.block ?_
    refine CW.seq fun K8 hK8 => ?_
    obtain ⟨y, hy⟩ : ∃ y, rs[x]? = some y := ⟨_, List.getElem?_eq_getElem (by omega)⟩
    obtain ⟨a, ha, hmy⟩ := hat x y hy
    obtain rfl := ha
    have hR4 := hR2
    refine CW.quiet (fun wq => Ext w2 wq) (by kernel_rfl) (by kernel_rfl) Chg.drew ?_
    refine QL.val (fun wq hq => Y.move rfl) (by decide) ?_
    refine QL.val (fun wq hq => Y.nilCheck rfl) (by decide) ?_
    refine QL.val (fun wq hq => Y.fieldAddr fo_recensionref08Tree1 rfl) (by decide) ?_
    refine QL.val (fun wq hq => Y.load1 Try.underlying89 rfl ((hR4.ext hq).blk.mem.recensionref08Tree1) rfl) (by decide) ?_
    refine QL.val (fun wq hq => Y.move rfl) (by decide) ?_
    refine QL.val (fun wq hq => Y.indexAddrN Try.underlying89 rfl rfl sz0_recensionref08Elem (by omega)) (by decide) ?_
    refine QL.val (fun wq hq => Y.fieldAddr fo_recensionref08Elem0 rfl) (by decide) ?_
    refine QL.val (fun wq hq => Y.load Try.underlying61 rfl (((hmy.ext hE).ext hq).recensionref08Elem0) (sz_apiRef _) rfl) (by decide) ?_
    refine QL.val (fun wq hq => Y.load Try.underlying61 rfl (hB3.ext hq).mem (sz_apiRef _) rfl) (by decide) ?_
    refine QL.val (fun wq hq => Y.eql_apiRef rfl rfl) (by decide) ?_
    refine QL.nil fun w3 hx3 => ?_
    have hz3 := hx3.size
    have hE := hE.thenExt hx3
    have hB3 := hB3.ext hx3
    refine hK8 _ _ ?_; try clear hK8 K8
    first | refine CW.condD rfl (fun ht9 => ?_) (fun ht9 => ?_) | refine CW.condND rfl (fun ht9 => ?_) (fun ht9 => ?_) | refine CW.condN rfl (fun ht9 => ?_) (fun ht9 => ?_) | refine CW.cond rfl (fun ht9 => ?_) (fun ht9 => ?_)
    · -- then
      refine CW.seq fun K10 hK10 => ?_
      refine CW.region ?_
      refine WL.val (Y.move rfl) (by decide) ?_
      refine WL.val (Y.assign rfl) (by decide) ?_
      refine WL.nil ?_
      refine hK10 _ _ ?_; try clear hK10 K10
      refine CW.ret ⟨_, rfl, ?_⟩
      exact ⟨by rw [findV_some (hxe _ _ hy) (by assumption) hno], hE⟩
 
    refine CW.skip ?_
    refine hK7 _ _ ?_; try clear hK7 K7
    refine CW.region ?_
    refine WL.val (Y.move rfl) (by decide) ?_
    refine WL.val (Y.add rfl rfl ⟨by omega, by omega⟩) (by decide) ?_
    refine WL.val (Y.assign rfl) (by decide) ?_
    refine WL.nil ?_
    exact ⟨x + 1, (by show rs.length - (x + 1) < rs.length - x; omega), (by repeat (first | exact Fr.le.nil | refine Fr.le.cons rfl ?_)), (by show x + 1 ≤ rs.length; omega), (fun j z hj hz => by
      by_cases e : j = x
      · subst e; rw [hxe _ _ hy] at hz; cases hz; assumption
      · exact hno j z (by omega) hz), hL.thenExt hx3⟩
  refine CW.exit ?_
  refine hK2 _ _ ?_; try clear hK2 K2
  refine CW.seq fun K11 hK11 => ?_
  refine CW.region ?_
  refine WL.val (Y.assign rfl) (by decide) ?_
  refine WL.nil ?_
  refine hK11 _ _ ?_; try clear hK11 K11
  refine CW.ret ⟨_, rfl, ?_⟩
  exact ⟨by rw [findV_none (fun j z hj hz => hno j z (by omega) hz)], hE⟩
theorem rahead_any (g : Nat) (ad : List Dig) (rs : List Rn) (av ev_ : Value) (p q : Nat) (w : World) (hR : RtAt w g ad rs av ev_) (hn : rs.length ≤ 400001) (hp : p < rs.length) (hq : q < rs.length) : Calls Try.prog 64 #[.pointer (some ⟨g, 0, none⟩), .int .i64 (p : Int), .int .i64 (q : Int)] w (Ret fun v w' => v = .bool (nameLt (nm (rels rs) p) (nm (rels rs) q)) ∧ Ext w w') := by
  obtain ⟨A, m, c, rfl⟩ := hR.es.lens
  have hsl := hR.sl
  have hel : (rels rs).length = rs.length := List.length_map _
  have hmm : rs.length = m ∧ m ≤ c ∧ c ≤ maxLen := by
    obtain ⟨A', m', c', e, h1, h2, h3, _⟩ := hsl
    injection e with e1 e2 e3
    exact ⟨by omega, by omega, by omega⟩
  unfold maxLen at hmm
  have hat : ∀ i x, rs[i]? = some x → ∃ a, A = some a ∧ Mem w (a.add (i * 38)) (rC x) := fun i x hx => hsl.get hx
  have hxe : ∀ (i : Nat) (x : Rn), rs[i]? = some x → (rels rs)[i]? = some x.el := fun i x hx => by rw [List.getElem?_map, hx]; rfl
  obtain ⟨x, hx⟩ : ∃ x, rs[p]? = some x := ⟨_, List.getElem?_eq_getElem (by omega)⟩
  obtain ⟨a, ha, hmx⟩ := hat p x hx
  obtain rfl := ha
  obtain ⟨y, hy⟩ : ∃ y, rs[q]? = some y := ⟨_, List.getElem?_eq_getElem (by omega)⟩
  obtain ⟨a2, ha2, hmy⟩ := hat q y hy
  obtain rfl : a = a2 := Option.some.inj ha2
  have e1 := nm_at (hxe _ _ hx)
  have e2 := nm_at (hxe _ _ hy)
  rw [e1, e2]
  refine calls_of_CW 44 [6] [(0, .pointer (some ⟨g, 0, none⟩)), (1, .int .i64 (p : Int)), (2, .int .i64 (q : Int))] Try.func64 rfl rfl rfl (by simp) args3 ?_
  have hE : Ext w w := Chg.refl
  refine CW.seq fun K1 hK1 => ?_
  refine CW.region ?_
  refine WL.val (Y.assign rfl) (by decide) ?_
  refine WL.nil ?_
  refine hK1 _ _ ?_; try clear hK1 K1
  refine CW.seq fun K2 hK2 => ?_
  refine CW.region ?_
  refine WL.val (Y.move rfl) (by decide) ?_
  refine WL.val (Y.nilCheck rfl) (by decide) ?_
  refine WL.val (Y.fieldAddr fo_recensionref08Tree1 rfl) (by decide) ?_
  refine WL.val (Y.load1 Try.underlying89 rfl hR.blk.mem.recensionref08Tree1 rfl) (by decide) ?_
  refine WL.val (Y.move rfl) (by decide) ?_
  refine WL.val (Y.indexAddrN Try.underlying89 rfl rfl sz0_recensionref08Elem (by omega)) (by decide) ?_
  refine WL.val (Y.fieldAddr fo_recensionref08Elem0 rfl) (by decide) ?_
  refine WL.val (Y.load Try.underlying61 rfl hmx.recensionref08Elem0 (sz_apiRef _) rfl) (by decide) ?_
  refine as_apiRef rfl (by simp) (by decide) fun g7 w1 hx1 hg7 hB7 => ?_
  have hlt7 := hB7.lt; have hz1 := hx1.size
  have hM7 := hB7.mem; have hz1 := hx1.size; have hE := hE.thenExt hx1
  refine WL.nil ?_
  refine hK2 _ _ ?_; try clear hK2 K2
  refine CW.seq fun K3 hK3 => ?_
  refine CW.region ?_
  refine WL.val (Y.move rfl) (by decide) ?_
  refine WL.val (Y.nilCheck rfl) (by decide) ?_
  refine WL.val (Y.fieldAddr fo_recensionref08Tree1 rfl) (by decide) ?_
  refine WL.val (Y.load1 Try.underlying89 rfl ((hR.ext hE).blk.mem.recensionref08Tree1) rfl) (by decide) ?_
  refine WL.val (Y.move rfl) (by decide) ?_
  refine WL.val (Y.indexAddrN Try.underlying89 rfl rfl sz0_recensionref08Elem (by omega)) (by decide) ?_
  refine WL.val (Y.fieldAddr fo_recensionref08Elem0 rfl) (by decide) ?_
  refine WL.val (Y.load Try.underlying61 rfl ((hmy.ext hE).recensionref08Elem0) (sz_apiRef _) rfl) (by decide) ?_
  refine as_apiRef rfl (by simp) (by decide) fun g8 w2 hx2 hg8 hB8 => ?_
  have hlt8 := hB8.lt; have hz2 := hx2.size
  have hM8 := hB8.mem; have hz2 := hx2.size; have hE := hE.thenExt hx2; have hB7 := hB7.ext hx2
  refine WL.nil ?_
  refine hK3 _ _ ?_; try clear hK3 K3
  refine CW.seq fun K4 hK4 => ?_
  refine CW.region ?_
  refine WL.val (Y.fieldAddr fo_apiRef1 rfl) (by decide) ?_
  refine WL.val (Y.load Try.underlying50 rfl hB7.mem.ref1 (sz_apiDigest _) rfl) (by decide) ?_
  refine WL.val (Y.fieldAddr fo_apiRef1 rfl) (by decide) ?_
  refine WL.val (Y.load Try.underlying50 rfl hB8.mem.ref1 (sz_apiDigest _) rfl) (by decide) ?_
  refine WL.call Try.func70 rfl rfl rfl (rLess_any _ _ _) (by simp) ?_; rintro v w3 ⟨rfl, hx3⟩; have hz3 := hx3.size; have hE := hE.thenExt hx3; have hB7 := hB7.ext hx3; have hB8 := hB8.ext hx3
  refine WL.val (Y.move rfl) (by decide) ?_
  first | refine WL.casesD (d := 30) rfl (fun hg30 => ?_) (fun hg30 => ?_) | refine WL.casesND (d := 30) rfl (fun hg30 => ?_) (fun hg30 => ?_) | refine WL.cases (d := 30) rfl (fun hg30 => ?_) (fun hg30 => ?_)
  · -- t30 = T
    refine WL.goff rfl rfl (by decide) ?_
    refine WL.goff rfl rfl (by decide) ?_
    refine WL.goff rfl rfl (by decide) ?_
    refine WL.goff rfl rfl (by decide) ?_
    refine WL.goff rfl rfl (by decide) ?_
    refine WL.goff rfl rfl (by decide) ?_
    refine WL.goffU rfl rfl (by decide) ?_
    refine WL.goffU rfl rfl (by decide) ?_
    refine WL.goffU rfl rfl (by decide) ?_
    refine WL.goffU rfl rfl (by decide) ?_
    refine WL.goffU rfl rfl (by decide) ?_
    refine WL.goff rfl rfl (by decide) ?_
    refine WL.val (Y.pick rfl rfl) (by decide) ?_
    refine WL.val (Y.assign rfl) (by decide) ?_
    refine WL.nil ?_
    refine hK4 _ _ ?_; try clear hK4 K4
    refine CW.ret ⟨_, rfl, ?_⟩
    exact ⟨by simp_all [nameLt], hE⟩
  · -- t30 = F
    refine WL.gval rfl rfl (Y.fieldAddr fo_apiRef1 rfl) (by decide) ?_
    refine WL.gval rfl rfl (Y.load Try.underlying50 rfl hB7.mem.ref1 (sz_apiDigest _) rfl) (by decide) ?_
    refine WL.gval rfl rfl (Y.fieldAddr fo_apiRef1 rfl) (by decide) ?_
    refine WL.gval rfl rfl (Y.load Try.underlying50 rfl hB8.mem.ref1 (sz_apiDigest _) rfl) (by decide) ?_
    refine WL.gval rfl rfl (Y.eql_apiDigest rfl rfl) (by decide) ?_
    refine WL.gval rfl rfl (Y.move rfl) (by decide) ?_
    first | refine WL.casesD (d := 36) rfl (fun hg36 => ?_) (fun hg36 => ?_) | refine WL.casesND (d := 36) rfl (fun hg36 => ?_) (fun hg36 => ?_) | refine WL.cases (d := 36) rfl (fun hg36 => ?_) (fun hg36 => ?_)
    · -- t36 = T
      refine WL.gval rfl rfl (Y.fieldAddr fo_apiRef2 rfl) (by decide) ?_
      refine WL.gval rfl rfl (Y.load1 Try.underlying3 rfl hB7.mem.ref2 rfl) (by decide) ?_
      refine WL.gval rfl rfl (Y.fieldAddr fo_apiRef2 rfl) (by decide) ?_
      refine WL.gval rfl rfl (Y.load1 Try.underlying3 rfl hB8.mem.ref2 rfl) (by decide) ?_
      refine WL.gval rfl rfl (Y.lss rfl rfl) (by decide) ?_
      refine WL.gval rfl rfl (Y.pick rfl rfl) (by decide) ?_
      refine WL.val (Y.pick rfl rfl) (by decide) ?_
      refine WL.val (Y.assign rfl) (by decide) ?_
      refine WL.nil ?_
      refine hK4 _ _ ?_; try clear hK4 K4
      refine CW.ret ⟨_, rfl, ?_⟩
      exact ⟨by simp_all [nameLt], hE⟩
    · -- t36 = F
      refine WL.goff rfl rfl (by decide) ?_
      refine WL.goff rfl rfl (by decide) ?_
      refine WL.goff rfl rfl (by decide) ?_
      refine WL.goff rfl rfl (by decide) ?_
      refine WL.goff rfl rfl (by decide) ?_
      refine WL.gval rfl rfl (Y.pick rfl rfl) (by decide) ?_
      refine WL.val (Y.pick rfl rfl) (by decide) ?_
      refine WL.val (Y.assign rfl) (by decide) ?_
      refine WL.nil ?_
      refine hK4 _ _ ?_; try clear hK4 K4
      refine CW.ret ⟨_, rfl, ?_⟩
      exact ⟨by simp_all [nameLt], hE⟩
set_option maxHeartbeats 1000000 in
theorem rput_any (g : Nat) (ad : List Dig) (rs : List Rn) (av ev_ : Value) (u : Value) (l : List Nat) (p : Nat) (w : World) (hR : RtAt w g ad rs av ev_) (hn : rs.length ≤ 400001) (hu : Own w TI8 1 u (intC l)) (hll : l.length ≤ 400001) (hp : p < rs.length) (hlr : ∀ q ∈ l, q < rs.length) : Calls Try.prog 49 #[.pointer (some ⟨g, 0, none⟩), u, .int .i64 (p : Int)] w (Ret fun v w' => Own w' TI8 1 v (intC (putN (fun q => nameLt (nm (rels rs) p) (nm (rels rs) q)) p l)) ∧ (∀ k, v.ownBlock = some k → w.heap.size ≤ k) ∧ Ext w w') := by
  obtain ⟨f, hf⟩ : ∃ f, f = fun q => nameLt (nm (rels rs) p) (nm (rels rs) q) := ⟨_, rfl⟩
  rw [← hf]
  have hfq : ∀ q, f q = nameLt (nm (rels rs) p) (nm (rels rs) q) := fun q => by rw [hf]
  obtain ⟨A, m, c, rfl⟩ := hu.lens
  obtain ⟨hlm, hlg⟩ := int_map hu
  have hcc := (hu.mem A m c rfl).2.2.2
  unfold maxLen at hcc
  refine calls_of_CW 45 [6] [(0, .pointer (some ⟨g, 0, none⟩)), (1, .slice A m c), (2, .int .i64 (p : Int))] Try.func49 rfl rfl rfl (by simp) args3 ?_
  have hE : Ext w w := Chg.refl
  refine CW.seq fun K1 hK1 => ?_
  refine CW.region ?_
  refine WL.val (Y.assign rfl) (by decide) ?_
  refine WL.nil ?_
  refine hK1 _ _ ?_; try clear hK1 K1
  refine CW.seq fun K2 hK2 => ?_
  refine CW.region ?_
  refine WL.val (Y.assign rfl) (by decide) ?_
  refine WL.nil ?_
  refine hK2 _ _ ?_; try clear hK2 K2
  refine CW.seq fun K3 hK3 => ?_
  refine CW.region ?_
  refine WL.val (Y.assign rfl) (by decide) ?_
  refine WL.nil ?_
  refine hK3 _ _ ?_; try clear hK3 K3
  refine CW.seq fun K4 hK4 => ?_
  refine CW.seq fun K5 hK5 => ?_
  refine CW.region ?_
  refine WL.val (Y.assign rfl) (by decide) ?_
  refine WL.nil ?_
  refine hK5 _ _ ?_; try clear hK5 K5
  refine CW.block ?_
  refine CW.loop (X := Nat × Value) (fun x => [(0, .pointer (some ⟨g, 0, none⟩)), (1, .slice A m c), (2, .int .i64 (p : Int)), (7, x.2), (8, .bool ((l.take x.1).foldl (pstep f p) ([], false)).2), (9, .int .i64 (x.1 : Int))]) (fun x w0 => x.1 ≤ m ∧ Own w0 TI8 1 x.2 (intC ((l.take x.1).foldl (pstep f p) ([], false)).1) ∧ (∀ b, x.2.ownBlock = some b → w.heap.size ≤ b) ∧ Ext w w0) (fun x => m - x.1) (0, .slice none 0 0) (by repeat (first | exact Fr.le.nil | refine Fr.le.cons rfl ?_)) ⟨Nat.zero_le _, Own.nil, (fun b hb => by simp [Value.ownBlock] at hb), Chg.refl⟩ ?_
  intro x w1 hl1
  obtain ⟨k, u1⟩ := x
  dsimp only at hl1 ⊢
  obtain ⟨hkm, hO, hfr, hE⟩ := hl1
  refine CW.seq fun K6 hK6 => ?_
  refine CW.seq fun K7 hK7 => ?_
  refine CW.region ?_
  refine WL.val (Y.move rfl) (by decide) ?_
  refine WL.val (Y.move rfl) (by decide) ?_
  refine WL.val (Y.len_slice Try.underlying84 rfl) (by decide) ?_
  refine WL.val (Y.lss rfl rfl) (by decide) ?_
  refine WL.nil ?_
  refine hK7 _ _ ?_; try clear hK7 K7
  first | refine CW.condD rfl (fun ht8 => ?_) (fun ht8 => ?_) | refine CW.condND rfl (fun ht8 => ?_) (fun ht8 => ?_) | refine CW.condN rfl (fun ht8 => ?_) (fun ht8 => ?_) | refine CW.cond rfl (fun ht8 => ?_) (fun ht8 => ?_)
  · -- then
    refine CW.skip ?_
    refine hK6 _ _ ?_; try clear hK6 K6
    refine CW.seq fun K9 hK9 => ?_
    refine CW.block ?_
    obtain ⟨q, hq⟩ : ∃ q, l[k]? = some q := ⟨_, List.getElem?_eq_getElem (by omega)⟩
    obtain ⟨a, rfl, hma⟩ := hlg k q hq
    have hpl := pstep_len (f := f) (n := p) (l.take k) ([], false)
    rw [List.length_take] at hpl
    simp only [List.length_nil] at hpl
    have hst := foldl_takeS (g := pstep f p) (b := ([], false)) hq
    refine CW.seq_to (X := Value) (fun u2 => [(0, .pointer (some ⟨g, 0, none⟩)), (1, .slice (some a) m c), (2, .int .i64 (p : Int)), (7, u2), (8, .bool (((l.take k).foldl (pstep f p) ([], false)).2 || f q)), (9, .int .i64 (k : Int))]) (fun u2 w0 => Own w0 TI8 1 u2 (intC (if ((l.take k).foldl (pstep f p) ([], false)).2 = false ∧ f q = true then ((l.take k).foldl (pstep f p) ([], false)).1 ++ [p] else ((l.take k).foldl (pstep f p) ([], false)).1)) ∧ (∀ b, u2.ownBlock = some b → w.heap.size ≤ b) ∧ Ext w w0) ?_ ?_
    · skip
      refine CW.seq_testE 26 (((l.take k).foldl (pstep f p) ([], false)).2 = false ∧ f q = true) ?_ ?_
      · refine CW.region ?_
        refine WL.val (Y.move rfl) (by decide) ?_
        refine WL.val (Y.not rfl) (by decide) ?_
        refine WL.val (Y.move rfl) (by decide) ?_
        first | refine WL.casesD (d := 18) rfl (fun hg18 => ?_) (fun hg18 => ?_) | refine WL.casesND (d := 18) rfl (fun hg18 => ?_) (fun hg18 => ?_) | refine WL.cases (d := 18) rfl (fun hg18 => ?_) (fun hg18 => ?_)
        · -- t18 = T
          refine WL.gval rfl rfl (Y.move rfl) (by decide) ?_
          refine WL.gval rfl rfl (Y.move rfl) (by decide) ?_
          refine WL.gval rfl rfl (Y.move rfl) (by decide) ?_
          refine WL.gval rfl rfl (Y.move rfl) (by decide) ?_
          refine WL.gval rfl rfl (Y.indexAddrN Try.underlying84 rfl rfl sz0_int (by omega)) (by decide) ?_
          refine WL.gval rfl rfl (Y.load1 Try.underlying3 rfl ((hma.ext hE).cell0) rfl) (by decide) ?_
          refine WL.gcall rfl rfl Try.func64 rfl rfl rfl (rahead_any g ad rs av ev_ p q _ (hR.ext hE) hn hp (hlr q (List.mem_of_getElem? hq))) (by decide) ?_; rintro v w2 ⟨rfl, hx2⟩; have hz2 := hx2.size; have hE := hE.thenExt hx2
          refine WL.val (Y.pick rfl rfl) (by decide) ?_
          refine WL.nil ⟨⟨_, rfl, ?_⟩, hx2, (by repeat (first | exact Fr.le.refl | refine Fr.le.push rfl ?_))⟩
          first | (simp only [*, Int.natCast_inj, Bool.not_eq_true', decide_eq_false_iff_not, decide_eq_true_eq, not_true_eq_false, not_false_eq_true, true_and, false_and, and_true, and_false, false_or, or_false, true_or, or_true, iff_true, true_iff, iff_false, false_iff]; done) | (simp_all; done) | (refine congrArg Value.bool (Bool.eq_iff_iff.2 ?_); simp_all; done) | (simp_all; omega)
        · -- t18 = F
          refine WL.goff rfl rfl (by decide) ?_
          refine WL.goff rfl rfl (by decide) ?_
          refine WL.goff rfl rfl (by decide) ?_
          refine WL.goff rfl rfl (by decide) ?_
          refine WL.goff rfl rfl (by decide) ?_
          refine WL.goff rfl rfl (by decide) ?_
          refine WL.goff rfl rfl (by decide) ?_
          refine WL.val (Y.pick rfl rfl) (by decide) ?_
          refine WL.nil ⟨⟨_, rfl, ?_⟩, Chg.refl, (by repeat (first | exact Fr.le.refl | refine Fr.le.push rfl ?_))⟩
          first | (simp only [*, Int.natCast_inj, Bool.not_eq_true', decide_eq_false_iff_not, decide_eq_true_eq, not_true_eq_false, not_false_eq_true, true_and, false_and, and_true, and_false, false_or, or_false, true_or, or_true, iff_true, true_iff, iff_false, false_iff]; done) | (simp_all; done) | (refine congrArg Value.bool (Bool.eq_iff_iff.2 ?_); simp_all; done) | (simp_all; omega)
      intro w3 hx3; have hz3 := hx3.size; have hE := hE.thenExt hx3
      first | refine CW.condD rfl (fun ht11 => ?_) (fun ht11 => ?_) | refine CW.condND rfl (fun ht11 => ?_) (fun ht11 => ?_) | refine CW.condN rfl (fun ht11 => ?_) (fun ht11 => ?_) | refine CW.cond rfl (fun ht11 => ?_) (fun ht11 => ?_)
      · -- then
        refine CW.seq fun K12 hK12 => ?_
        refine CW.region ?_
        refine WL.val (Y.move rfl) (by decide) ?_
        refine WL.val (Y.move rfl) (by decide) ?_
        refine WL.st (St.buildSlice rfl (bs1_int _)) (by decide) fun v29 w4 hR4 => ?_
        obtain ⟨g29, rfl, hg29, hB29, hx4⟩ := hR4
        have hz4 := hx4.size
        have hO3 := (hO.ext hx3).ext hx4
        refine WL.st (St.append (m := 1) (news := intC [p]) UI UI ai_int rfl rfl hO3 (Fw.Src.one hB29 rfl) one_intC (by rw [intC_length]; omega)) (by decide) fun v30 w5 hR5 => ?_
        obtain ⟨hO5, hc5, hf5⟩ := hR5
        have hz5 := hc5.size
        have hE5 : Ext w w5 := (hE.thenExt hx4).step hc5 (fun b hb => hfr b hb)
        have hzE := hE.size
        refine WL.val (Y.assign rfl) (by decide) ?_
        refine WL.nil ?_
        refine hK12 _ _ ?_; try clear hK12 K12
        refine CW.region ?_
        refine WL.val (Y.assign rfl) (by decide) ?_
        refine WL.nil ?_
        have hc : ((l.take k).foldl (pstep f p) ([], false)).2 = false ∧ f q = true := by assumption
        exact ⟨v30, (by rw [hc.2, Bool.or_true]; exact (by repeat (first | exact Fr.le.nil | refine Fr.le.cons rfl ?_))), (by rw [if_pos (by assumption), intC_app]; exact hO5), (fun b hb => by rcases hf5 with e | e; rw [e] at hb; exact hfr b hb; have := e b hb; omega), hE5⟩
   
      refine CW.skip ?_
      have hc : ¬ (((l.take k).foldl (pstep f p) ([], false)).2 = false ∧ f q = true) := by assumption
      have e8 : (((l.take k).foldl (pstep f p) ([], false)).2 || f q) = ((l.take k).foldl (pstep f p) ([], false)).2 := by
        cases h2 : ((l.take k).foldl (pstep f p) ([], false)).2 <;> cases h3 : f q <;> simp_all
      exact ⟨u1, (by rw [e8]; exact (by repeat (first | exact Fr.le.nil | refine Fr.le.cons rfl ?_))), (by rw [if_neg (by assumption)]; exact hO.ext hx3), hfr, hE⟩
    rintro u w6 hj6
    obtain ⟨hO, hfr, hE⟩ := hj6
    have hzE := hE.size
    refine CW.region ?_
    refine WL.val (Y.move rfl) (by decide) ?_
    refine WL.val (Y.move rfl) (by decide) ?_
    refine WL.val (Y.move rfl) (by decide) ?_
    refine WL.val (Y.indexAddrN Try.underlying84 rfl rfl sz0_int (by omega)) (by decide) ?_
    refine WL.val (Y.load1 Try.underlying3 rfl ((hma.ext hE).cell0) rfl) (by decide) ?_
    refine WL.st (St.buildSlice rfl (bs1_int _)) (by decide) fun v36 w7 hR7 => ?_
    obtain ⟨g36, rfl, hg36, hB36, hx7⟩ := hR7
    have hz7 := hx7.size
    refine WL.st (St.append (m := 1) (news := intC [q]) UI UI ai_int rfl rfl (hO.ext hx7) (Fw.Src.one hB36 rfl) one_intC (by rw [intC_length]; split <;> (try rw [List.length_append]) <;> (try rw [List.length_singleton]) <;> omega)) (by decide) fun v37 w8 hR8 => ?_
    obtain ⟨hO8, hc8, hf8⟩ := hR8
    have hz8 := hc8.size
    have hE8 : Ext w w8 := (hE.thenExt hx7).step hc8 (fun b hb => hfr b hb)
    rw [← intC_app] at hO8
    refine WL.val (Y.assign rfl) (by decide) ?_
    refine WL.nil ?_
    refine hK9 _ _ ?_; try clear hK9 K9
    refine CW.region ?_
    refine WL.val (Y.move rfl) (by decide) ?_
    refine WL.val (Y.add rfl rfl ⟨by omega, by omega⟩) (by decide) ?_
    refine WL.val (Y.assign rfl) (by decide) ?_
    refine WL.nil ?_
    have hps : (l.take (k + 1)).foldl (pstep f p) ([], false) = ((if ((l.take k).foldl (pstep f p) ([], false)).2 = false ∧ f q = true then ((l.take k).foldl (pstep f p) ([], false)).1 ++ [p] else ((l.take k).foldl (pstep f p) ([], false)).1) ++ [q], ((l.take k).foldl (pstep f p) ([], false)).2 || f q) := by
      rw [hst, pstep]
      by_cases h1 : ((l.take k).foldl (pstep f p) ([], false)).2 = false ∧ f q = true
      · rw [if_pos h1, if_pos h1, h1.2]; simp
      · rw [if_neg h1, if_neg h1]
        congr 1
        cases h2 : ((l.take k).foldl (pstep f p) ([], false)).2 <;> cases h3 : f q <;> simp_all
    exact ⟨(k + 1, v37), (by show m - (k + 1) < m - k; omega), (by rw [hps]; exact (by repeat (first | exact Fr.le.nil | refine Fr.le.cons rfl ?_))), (by show k + 1 ≤ m; omega), (by rw [hps]; exact hO8), (fun b hb => by rcases hf8 with e | e; rw [e] at hb; exact hfr b hb; have := e b hb; omega), hE8⟩
  refine CW.exit ?_
  refine hK4 _ _ ?_; try clear hK4 K4
  have hke : l.take k = l := List.take_of_length_le (by omega)
  have hput := pstep_put (f := f) (n := p) l []
  rw [hke] at hO
  have hpl := pstep_len (f := f) (n := p) l ([], false)
  simp only [List.length_nil] at hpl
  refine CW.seq_to (X := Value) (fun u2 => [(7, u2)]) (fun u2 w0 => Own w0 TI8 1 u2 (intC (putN f p l)) ∧ (∀ b, u2.ownBlock = some b → w.heap.size ≤ b) ∧ Ext w w0) ?_ ?_
  · skip
    refine CW.seq fun K14 hK14 => ?_
    refine CW.region ?_
    refine WL.val (Y.move rfl) (by decide) ?_
    refine WL.val (Y.not rfl) (by decide) ?_
    refine WL.nil ?_
    refine hK14 _ _ ?_; try clear hK14 K14
    first | refine CW.condD rfl (fun ht15 => ?_) (fun ht15 => ?_) | refine CW.condND rfl (fun ht15 => ?_) (fun ht15 => ?_) | refine CW.condN rfl (fun ht15 => ?_) (fun ht15 => ?_) | refine CW.cond rfl (fun ht15 => ?_) (fun ht15 => ?_)
    · -- then
      refine CW.region ?_
      refine WL.val (Y.move rfl) (by decide) ?_
      refine WL.val (Y.move rfl) (by decide) ?_
      refine WL.st (St.buildSlice rfl (bs1_int _)) (by decide) fun v42 w9 hR9 => ?_
      obtain ⟨g42, rfl, hg42, hB42, hx9⟩ := hR9
      have hz9 := hx9.size
      refine WL.st (St.append (m := 1) (news := intC [p]) UI UI ai_int rfl rfl (hO.ext hx9) (Fw.Src.one hB42 rfl) one_intC (by rw [intC_length]; omega)) (by decide) fun v43 w10 hR10 => ?_
      obtain ⟨hO10, hc10, hf10⟩ := hR10
      have hz10 := hc10.size
      have hE10 : Ext w w10 := (hE.thenExt hx9).step hc10 (fun b hb => hfr b hb)
      have hzE := hE.size
      refine WL.val (Y.assign rfl) (by decide) ?_
      refine WL.nil ?_
      have hd : (l.foldl (pstep f p) ([], false)).2 = false := by rw [← hke]; simp_all
      rw [if_neg (by rw [hd]; decide)] at hput
      exact ⟨v43, (by repeat (first | exact Fr.le.nil | refine Fr.le.cons rfl ?_)), (by rw [← intC_app, hput] at hO10; exact hO10), (fun b hb => by rcases hf10 with e | e; rw [e] at hb; exact hfr b hb; have := e b hb; omega), hE10⟩
 
    refine CW.skip ?_
    have hd : (l.foldl (pstep f p) ([], false)).2 = true := by rw [← hke]; simp_all
    rw [if_pos hd] at hput
    exact ⟨u1, (by repeat (first | exact Fr.le.nil | refine Fr.le.cons rfl ?_)), (by rw [hput] at hO; exact hO), hfr, hE⟩
  rintro u w11 hj11
  obtain ⟨hO, hfr, hE⟩ := hj11
  refine CW.seq fun K16 hK16 => ?_
  refine CW.region ?_
  refine WL.val (Y.move rfl) (by decide) ?_
  refine WL.val (Y.assign rfl) (by decide) ?_
  refine WL.nil ?_
  refine hK16 _ _ ?_; try clear hK16 K16
  refine CW.ret ⟨_, rfl, ?_⟩
  exact ⟨hO, hfr, hE⟩
end Go.Proofs.Ytmndofgagngcgaa
