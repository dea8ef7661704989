/- Parts of a proof: what its last text leans on. No condition. -/
import Derived.Test.YtjbeooimhoilmaaGreatDoorK04
import Derived.Test.YtjbeooimhoilmaaGreatDoorK05
import Derived.Test.YtjbeooimhoilmaaGreatDoorK15
import Derived.Test.YtjbeooimhoilmaaGreatDoorK21
set_option linter.unusedSimpArgs false
set_option linter.unusedVariables false
/- The document's trees: New, Find, ahead, put, walked. No condition. -/
namespace Go.Fu
open Go.Fw Go.Pl
def findV (e : List El) (r : RefD) : Int := match atE e r with
 | some i => (i : Int)
 | none => -1
theorem findV_some {e : List El} {r : RefD} {i : Nat} {x : El} (hx : e[i]? = some x) (hn : x.name = r) (hb : ∀ (j : Nat) (y : El), j < i → e[j]? = some y → y.name ≠ r) : findV e r = (i : Int) := by
 rw [findV, atE_some.2 ⟨x, hx, hn, hb⟩]
theorem findV_none {e : List El} {r : RefD} (hb : ∀ (j : Nat) (y : El), j < e.length → e[j]? = some y → y.name ≠ r) : findV e r = -1 := by
 have : atE e r = none := atE_none.2 fun x hx => by
  obtain ⟨j, hj⟩ := List.mem_iff_getElem?.1 hx
  exact hb j x (List.getElem?_eq_some_iff.1 hj).1 hj
 rw [findV, this]
def pstep (f : Nat → Bool) (n : Nat) (s : List Nat × Bool) (y : Nat) : List Nat × Bool := if s.2 = false ∧ f y = true then (s.1 ++ [n] ++ [y], true) else (s.1 ++ [y], s.2)
theorem pstep_done {f : Nat → Bool} {n : Nat} : ∀ (l o : List Nat), l.foldl (pstep f n) (o, true) = (o ++ l, true)
 | [], o => by simp
 | y :: r, o => by
  rw [List.foldl_cons]
  show r.foldl (pstep f n) (pstep f n (o, true) y) = _
  have : pstep f n (o, true) y = (o ++ [y], true) := by simp [pstep]
  rw [this, pstep_done r]; simp
theorem pstep_put {f : Nat → Bool} {n : Nat} : ∀ (l o : List Nat), (if (l.foldl (pstep f n) (o, false)).2 = true then (l.foldl (pstep f n) (o, false)).1 else (l.foldl (pstep f n) (o, false)).1 ++ [n]) = o ++ putN f n l
 | [], o => by simp [putN]
 | y :: r, o => by
  rw [List.foldl_cons, putN]
  by_cases h : f y = true
  ·
   have : pstep f n (o, false) y = (o ++ [n] ++ [y], true) := by simp [pstep, h]
   rw [this, pstep_done, if_pos rfl, if_pos h]; simp
  ·
   have : pstep f n (o, false) y = (o ++ [y], false) := by simp [pstep, h]
   rw [this, if_neg h, pstep_put r]; simp
theorem foldl_takeS {β : Type} {g : β → Nat → β} {b : β} {l : List Nat} {k c : Nat} (h : l[k]? = some c) : (l.take (k + 1)).foldl g b = g ((l.take k).foldl g b) c := by
 rw [List.take_add_one, h]; simp
theorem pstep_len {f : Nat → Bool} {n : Nat} : ∀ (l : List Nat) (s : List Nat × Bool), (l.foldl (pstep f n) s).1.length ≤ s.1.length + 2 * l.length
 | [], s => by simp
 | y :: r, s => by
  rw [List.foldl_cons]
  have := pstep_len (f := f) (n := n) r (pstep f n s y)
  have h2 : (pstep f n s y).1.length ≤ s.1.length + 2 := by unfold pstep; split <;> simp
  simp only [List.length_cons]; omega
end Go.Fu
namespace Go.Fw
abbrev iC (m : Nat) : List Value := [.int .i64 (m : Int)]
theorem intC_flat (l : List Nat) : intC l = (l.map iC).flatten := by
 unfold intC
 induction l with
 | nil => rfl
 | cons a r ih => simp only [List.map_cons, List.flatten_cons, ih]; rfl
theorem intC_app (a b : List Nat) : intC (a ++ b) = intC a ++ intC b := by simp [intC]
theorem one_intC {l : List Nat} : ∀ u ∈ intC l, u.oneCell' = true := by
 intro u hu
 obtain ⟨m, _, rfl⟩ := List.mem_map.1 hu; rfl
theorem int_map {e : TypeId} {w : World} {l : List Nat} {A : Option Addr} {m c : Nat} (h : Own w e 1 (.slice A m c) (intC l)) : l.length = m ∧ ∀ i q, l[i]? = some q → ∃ a, A = some a ∧ Mem w (a.add (i * 1)) (iC q) := by
 have h1 := (h.mem A m c rfl).2.2.1
 rw [intC_length, Nat.mul_one] at h1
 rw [intC_flat] at h
 exact ⟨h1, fun i q hq => (h.sl (fun _ => rfl) (by decide)).get hq⟩
end Go.Fw
namespace Go.Proofs.YtjbeooimhoilmaaGreatDoor
open Go.RowKit Go.Fw Go.Fu Go.Pl
abbrev UI := Tryz.underlying23
abbrev TI8 : TypeId := 3
theorem ai_int : AppInfo Tryz.prog TI8 1 8 := by
 have h : (Tryz.prog.info? TI8).map (fun i => (i.size, i.bytes, i.zero)) = some (1, 8, some (.int .i64 0)) := by kernel_rfl
 obtain ⟨i, hi, h⟩ := Option.map_eq_some_iff.1 h
 injection h with h1 h2
 injection h2 with h2 h3
 exact ⟨i, _, hi, h3, h1, rfl, h2, by decide, by decide⟩
theorem bs1_int (c : Int) (w : World) : (Instr.buildSlice 23 1 [(0, Value.int .i64 c)].toArray).run Tryz.prog w = .ok (.slice (some ⟨w.heap.size, 0, none⟩) 1 1) (w.alloc (.cells [Value.int .i64 c].toArray TI8)) := by
 obtain ⟨i, z, hi, hz, hs, _, _, h0, _⟩ := ai_int
 exact run_bs1 UI hi hz (by omega) (by omega) rfl (by rw [hs]; rfl) w
theorem rnew_any (w : World) : Calls Tryz.prog 32 #[] w (Ret fun v w' => ∃ g ev_, v = .pointer (some ⟨g, 0, none⟩) ∧ w.heap.size ≤ g ∧ (∀ k, ev_.ownBlock = some k → w.heap.size ≤ k) ∧ RtAt w' g [] [⟨El.root, .slice none 0 0, .slice none 0 0⟩] (.slice none 0 0) ev_ ∧ Ext w w') := by
 refine calls_of_CW 5 [0] [] Tryz.func32 rfl rfl rfl (by simp) args0 ?_
 have hE : Ext w w := Chg.refl
 refine CW.sr fun K1 hK1 => ?_
 refine WL.a rfl ?_
 refine WL.nil (hK1 _ _ ?_); try clear hK1 K1
 refine CW.sr fun K2 hK2 => ?_
 refine WL.v (Y.build rfl (build_elem0 _)) ?_
 refine WL.st (St.buildSlice rfl (bs1_elem ⟨El.root, .slice none 0 0, .slice none 0 0⟩)) (by decide) fun v2 w1 hR1 => ?_
 obtain ⟨g2, rfl, hg2, hB2, hx1⟩ := hR1
 have hz1 := hx1.size
 have hE := hE.thenExt hx1
 refine WL.v (Y.build rfl (build_tree8 _ rfl _)) ?_
 refine WL.box rfl rfl (by decide) fun g4 w2 hx2 hg4 hB4 => ?_
 have hlt4 := hB4.lt; have hz2 := hx2.size
 have hM4 := hB4.mem; have hz2 := hx2.size; have hE := hE.thenExt hx2
 refine WL.a rfl ?_
 refine WL.nil (hK2 _ _ ?_); try clear hK2 K2
 refine CW.ret ⟨_, rfl, ?_⟩
 exact ⟨_, _, rfl, by omega, (fun k hk => by simp [Value.ownBlock] at hk; omega), ⟨hB4, Own.nil, .inr ⟨g2, 1, 1, [], (0, 0), rfl, (by have h9 : w2.heap[g2]? = _ := hB2.ext hx2; simpa using h9), by simp [rC_length], by omega, by unfold maxLen; omega, by simp [rC_length], fun o _ => by simp⟩, fun x hx s => by
  simp at hx; subst hx; cases s <;> exact Own.nil⟩, hE⟩
theorem rfind_any (g : Nat) (ad : List Dig) (rs : List Rn) (av ev_ : Value) (r : RefD) (w : World) (hR : RtAt w g ad rs av ev_) (hn : rs.length ≤ 400001) : Calls Tryz.prog 55 #[.pointer (some ⟨g, 0, none⟩), refV r] w (Ret fun v w' => v = .int .i64 (findV (rels rs) r) ∧ Ext w w') := by
 obtain ⟨A, m, c, rfl⟩ := hR.es.lens
 have hsl := hR.sl
 have hel : (rels rs).length = rs.length := List.length_map _
 have hmm : rs.length = m ∧ m ≤ c ∧ c ≤ maxLen := by
  obtain ⟨A', m', c', e, h1, h2, h3, _⟩ := hsl
  injection e with e1 e2 e3
  exact ⟨by omega, by omega, by omega⟩
 unfold maxLen at hmm
 have hat : ∀ i x, rs[i]? = some x → ∃ a, A = some a ∧ Mem w (a.add (i * 38)) (rC x) := fun i x hx => hsl.get hx
 have hxe : ∀ (i : Nat) (x : Rn), rs[i]? = some x → (rels rs)[i]? = some x.el := fun i x hx => by rw [List.getElem?_map, hx]; rfl
 refine calls_of_CW 26 [4] [(0, .pointer (some ⟨g, 0, none⟩)), (1, refV r)] Tryz.func55 rfl rfl rfl (by simp) args2 ?_
 have hE : Ext w w := Chg.refl
 refine CW.sr fun K1 hK1 => ?_
 refine WL.box rfl rfl (by decide) fun g3 w1 hx1 hg3 hB3 => ?_
 have hlt3 := hB3.lt; have hz1 := hx1.size
 have hM3 := hB3.mem; have hz1 := hx1.size; have hE := hE.thenExt hx1
 refine WL.a rfl ?_
 refine WL.nil (hK1 _ _ ?_); try clear hK1 K1
 refine CW.seq fun K2 hK2 => ?_
 refine CW.sr fun K3 hK3 => ?_
 refine WL.a rfl ?_
 refine WL.nil (hK3 _ _ ?_); try clear hK3 K3
 refine CW.block ?_
 refine CW.loop (X := Nat) (fun x => [(0, .pointer (some ⟨g, 0, none⟩)), (3, .pointer (some ⟨g3, 0, none⟩)), (5, .int .i64 (x : Int))]) (fun x w0 => x ≤ rs.length ∧ (∀ (j : Nat) (y : El), j < x → (rels rs)[j]? = some y → y.name ≠ r) ∧ Ext w1 w0) (fun x => rs.length - x) 0 Fr.ok ⟨Nat.zero_le _, (fun j y h => by omega), Chg.refl⟩ ?_
 intro x w2 hl2
 obtain ⟨hxm, hno, hL⟩ := hl2
 have hE := hE.thenExt hL
 have hB3 := hB3.ext hL
 have hR2 := hR.ext hE
 refine CW.seq fun K4 hK4 => ?_
 refine CW.sr fun K5 hK5 => ?_
 refine WL.m rfl ?_
 refine WL.m rfl ?_
 refine WL.v (Y.nilCheck rfl) ?_
 refine WL.v (Y.fieldAddr fo_recensionref08Tree1 rfl) ?_
 refine WL.v (Y.load1 Tryz.underlying60 rfl hR2.blk.mem.recensionref08Tree1 rfl) ?_
 refine WL.v (Y.len_slice Tryz.underlying60 rfl) ?_
 refine WL.v (Y.lss rfl rfl) ?_
 refine WL.nil (hK5 _ _ ?_); try clear hK5 K5
 (first | refine CW.condD rfl ?_ ?_ | refine CW.condND rfl ?_ ?_ | refine CW.condN rfl ?_ ?_ | refine CW.cond rfl ?_ ?_) <;> intro ht6
 ·
  -- then
  refine CW.skip ?_
  refine hK4 _ _ ?_; try clear hK4 K4
  refine CW.seq fun K7 hK7 => ?_
  refine CW.block ?_
  refine CW.seq fun K8 hK8 => ?_
  obtain ⟨y, hy⟩ : ∃ y, rs[x]? = some y := ⟨_, List.getElem?_eq_getElem (by omega)⟩
  obtain ⟨a, ha, hmy⟩ := hat x y hy
  obtain rfl := ha
  have hR4 := hR2
  refine CW.quiet (fun wq => Ext w2 wq) (by kernel_rfl) (by kernel_rfl) Chg.drew ?_
  refine QL.m rfl ?_
  refine QL.v (fun wq hq => Y.nilCheck rfl) ?_
  refine QL.v (fun wq hq => Y.fieldAddr fo_recensionref08Tree1 rfl) ?_
  refine QL.v (fun wq hq => Y.load1 Tryz.underlying60 rfl ((hR4.ext hq).blk.mem.recensionref08Tree1) rfl) ?_
  refine QL.m rfl ?_
  refine QL.v (fun wq hq => Y.indexAddrN Tryz.underlying60 rfl rfl sz0_recensionref08Elem (by omega)) ?_
  refine QL.v (fun wq hq => Y.fieldAddr fo_recensionref08Elem0 rfl) ?_
  refine QL.v (fun wq hq => Y.load Tryz.underlying68 rfl (((hmy.ext hE).ext hq).recensionref08Elem0) (sz_apiRef _) rfl) ?_
  refine QL.v (fun wq hq => Y.load Tryz.underlying68 rfl (hB3.ext hq).mem (sz_apiRef _) rfl) ?_
  refine QL.v (fun wq hq => Y.eql_apiRef rfl rfl) ?_
  refine QL.nil fun w3 hx3 => ?_
  have hz3 := hx3.size
  have hE := hE.thenExt hx3
  have hB3 := hB3.ext hx3
  refine hK8 _ _ ?_; try clear hK8 K8
  (first | refine CW.condD rfl ?_ ?_ | refine CW.condND rfl ?_ ?_ | refine CW.condN rfl ?_ ?_ | refine CW.cond rfl ?_ ?_) <;> intro ht9
  ·
   -- then
   refine CW.sr fun K10 hK10 => ?_
   refine WL.m rfl ?_
   refine WL.a rfl ?_
   refine WL.nil (hK10 _ _ ?_); try clear hK10 K10
   refine CW.ret ⟨_, rfl, ?_⟩
   exact ⟨by rw [findV_some (hxe _ _ hy) (by assumption) hno], hE⟩
  refine CW.skip ?_
  refine hK7 _ _ ?_; try clear hK7 K7
  refine CW.region ?_
  refine WL.m rfl ?_
  refine WL.v (Y.add rfl rfl ⟨by omega, by omega⟩) ?_
  refine WL.a rfl ?_
  refine WL.nil ?_
  exact ⟨x + 1, (by show rs.length - (x + 1) < rs.length - x; omega), Fr.ok, (by show x + 1 ≤ rs.length; omega), (fun j z hj hz => by
   by_cases e : j = x
   ·
    subst e; rw [hxe _ _ hy] at hz; cases hz; assumption
   ·
    exact hno j z (by omega) hz), hL.thenExt hx3⟩
 refine CW.exit ?_
 refine hK2 _ _ ?_; try clear hK2 K2
 refine CW.sr fun K11 hK11 => ?_
 refine WL.a rfl ?_
 refine WL.nil (hK11 _ _ ?_); try clear hK11 K11
 refine CW.ret ⟨_, rfl, ?_⟩
 exact ⟨by rw [findV_none (fun j z hj hz => hno j z (by omega) hz)], hE⟩
theorem rahead_any (g : Nat) (ad : List Dig) (rs : List Rn) (av ev_ : Value) (p q : Nat) (w : World) (hR : RtAt w g ad rs av ev_) (hn : rs.length ≤ 400001) (hp : p < rs.length) (hq : q < rs.length) : Calls Tryz.prog 80 #[.pointer (some ⟨g, 0, none⟩), .int .i64 (p : Int), .int .i64 (q : Int)] w (Ret fun v w' => v = .bool (nameLt (nm (rels rs) p) (nm (rels rs) q)) ∧ Ext w w') := by
 obtain ⟨A, m, c, rfl⟩ := hR.es.lens
 have hsl := hR.sl
 have hel : (rels rs).length = rs.length := List.length_map _
 have hmm : rs.length = m ∧ m ≤ c ∧ c ≤ maxLen := by
  obtain ⟨A', m', c', e, h1, h2, h3, _⟩ := hsl
  injection e with e1 e2 e3
  exact ⟨by omega, by omega, by omega⟩
 unfold maxLen at hmm
 have hat : ∀ i x, rs[i]? = some x → ∃ a, A = some a ∧ Mem w (a.add (i * 38)) (rC x) := fun i x hx => hsl.get hx
 have hxe : ∀ (i : Nat) (x : Rn), rs[i]? = some x → (rels rs)[i]? = some x.el := fun i x hx => by rw [List.getElem?_map, hx]; rfl
 obtain ⟨x, hx⟩ : ∃ x, rs[p]? = some x := ⟨_, List.getElem?_eq_getElem (by omega)⟩
 obtain ⟨a, ha, hmx⟩ := hat p x hx
 obtain rfl := ha
 obtain ⟨y, hy⟩ : ∃ y, rs[q]? = some y := ⟨_, List.getElem?_eq_getElem (by omega)⟩
 obtain ⟨a2, ha2, hmy⟩ := hat q y hy
 obtain rfl : a = a2 := Option.some.inj ha2
 have e1 := nm_at (hxe _ _ hx)
 have e2 := nm_at (hxe _ _ hy)
 rw [e1, e2]
 refine calls_of_CW 44 [6] [(0, .pointer (some ⟨g, 0, none⟩)), (1, .int .i64 (p : Int)), (2, .int .i64 (q : Int))] Tryz.func80 rfl rfl rfl (by simp) args3 ?_
 have hE : Ext w w := Chg.refl
 refine CW.sr fun K1 hK1 => ?_
 refine WL.a rfl ?_
 refine WL.nil (hK1 _ _ ?_); try clear hK1 K1
 refine CW.sr fun K2 hK2 => ?_
 refine WL.m rfl ?_
 refine WL.v (Y.nilCheck rfl) ?_
 refine WL.v (Y.fieldAddr fo_recensionref08Tree1 rfl) ?_
 refine WL.v (Y.load1 Tryz.underlying60 rfl hR.blk.mem.recensionref08Tree1 rfl) ?_
 refine WL.m rfl ?_
 refine WL.v (Y.indexAddrN Tryz.underlying60 rfl rfl sz0_recensionref08Elem (by omega)) ?_
 refine WL.v (Y.fieldAddr fo_recensionref08Elem0 rfl) ?_
 refine WL.v (Y.load Tryz.underlying68 rfl hmx.recensionref08Elem0 (sz_apiRef _) rfl) ?_
 refine as_apiRef rfl (by simp) (by decide) fun g7 w1 hx1 hg7 hB7 => ?_
 have hlt7 := hB7.lt; have hz1 := hx1.size
 have hM7 := hB7.mem; have hz1 := hx1.size; have hE := hE.thenExt hx1
 refine WL.nil (hK2 _ _ ?_); try clear hK2 K2
 refine CW.sr fun K3 hK3 => ?_
 refine WL.m rfl ?_
 refine WL.v (Y.nilCheck rfl) ?_
 refine WL.v (Y.fieldAddr fo_recensionref08Tree1 rfl) ?_
 refine WL.v (Y.load1 Tryz.underlying60 rfl ((hR.ext hE).blk.mem.recensionref08Tree1) rfl) ?_
 refine WL.m rfl ?_
 refine WL.v (Y.indexAddrN Tryz.underlying60 rfl rfl sz0_recensionref08Elem (by omega)) ?_
 refine WL.v (Y.fieldAddr fo_recensionref08Elem0 rfl) ?_
 refine WL.v (Y.load Tryz.underlying68 rfl ((hmy.ext hE).recensionref08Elem0) (sz_apiRef _) rfl) ?_
 refine as_apiRef rfl (by simp) (by decide) fun g8 w2 hx2 hg8 hB8 => ?_
 have hlt8 := hB8.lt; have hz2 := hx2.size
 have hM8 := hB8.mem; have hz2 := hx2.size; have hE := hE.thenExt hx2; have hB7 := hB7.ext hx2
 refine WL.nil (hK3 _ _ ?_); try clear hK3 K3
 refine CW.sr fun K4 hK4 => ?_
 refine WL.v (Y.fieldAddr fo_apiRef1 rfl) ?_
 refine WL.v (Y.load Tryz.underlying43 rfl hB7.mem.ref1 (sz_apiDigest _) rfl) ?_
 refine WL.v (Y.fieldAddr fo_apiRef1 rfl) ?_
 refine WL.v (Y.load Tryz.underlying43 rfl hB8.mem.ref1 (sz_apiDigest _) rfl) ?_
 refine WL.call Tryz.func64 rfl rfl rfl (rLess_any _ _ _) (by simp) ?_; rintro v w3 ⟨rfl, hx3⟩; have hz3 := hx3.size; have hE := hE.thenExt hx3; have hB7 := hB7.ext hx3; have hB8 := hB8.ext hx3
 refine WL.m rfl ?_
 (first | refine WL.casesD (d := 30) rfl ?_ ?_ | refine WL.casesND (d := 30) rfl ?_ ?_ | refine WL.cases (d := 30) rfl ?_ ?_) <;> intro hg30
 ·
  -- t30 = T
  refine WL.o rfl rfl ?_
  refine WL.o rfl rfl ?_
  refine WL.o rfl rfl ?_
  refine WL.o rfl rfl ?_
  refine WL.o rfl rfl ?_
  refine WL.o rfl rfl ?_
  refine WL.goffU rfl rfl (by decide) ?_
  refine WL.goffU rfl rfl (by decide) ?_
  refine WL.goffU rfl rfl (by decide) ?_
  refine WL.goffU rfl rfl (by decide) ?_
  refine WL.goffU rfl rfl (by decide) ?_
  refine WL.o rfl rfl ?_
  refine WL.v (Y.pick rfl rfl) ?_
  refine WL.a rfl ?_
  refine WL.nil (hK4 _ _ ?_); try clear hK4 K4
  refine CW.ret ⟨_, rfl, ?_⟩
  exact ⟨by simp_all [nameLt], hE⟩
 ·
  -- t30 = F
  refine WL.g rfl rfl (Y.fieldAddr fo_apiRef1 rfl) ?_
  refine WL.g rfl rfl (Y.load Tryz.underlying43 rfl hB7.mem.ref1 (sz_apiDigest _) rfl) ?_
  refine WL.g rfl rfl (Y.fieldAddr fo_apiRef1 rfl) ?_
  refine WL.g rfl rfl (Y.load Tryz.underlying43 rfl hB8.mem.ref1 (sz_apiDigest _) rfl) ?_
  refine WL.g rfl rfl (Y.eql_apiDigest rfl rfl) ?_
  refine WL.g rfl rfl (Y.move rfl) ?_
  (first | refine WL.casesD (d := 36) rfl ?_ ?_ | refine WL.casesND (d := 36) rfl ?_ ?_ | refine WL.cases (d := 36) rfl ?_ ?_) <;> intro hg36
  ·
   -- t36 = T
   refine WL.g rfl rfl (Y.fieldAddr fo_apiRef2 rfl) ?_
   refine WL.g rfl rfl (Y.load1 Tryz.underlying3 rfl hB7.mem.ref2 rfl) ?_
   refine WL.g rfl rfl (Y.fieldAddr fo_apiRef2 rfl) ?_
   refine WL.g rfl rfl (Y.load1 Tryz.underlying3 rfl hB8.mem.ref2 rfl) ?_
   refine WL.g rfl rfl (Y.lss rfl rfl) ?_
   refine WL.g rfl rfl (Y.pick rfl rfl) ?_
   refine WL.v (Y.pick rfl rfl) ?_
   refine WL.a rfl ?_
   refine WL.nil (hK4 _ _ ?_); try clear hK4 K4
   refine CW.ret ⟨_, rfl, ?_⟩
   exact ⟨by simp_all [nameLt], hE⟩
  ·
   -- t36 = F
   refine WL.o rfl rfl ?_
   refine WL.o rfl rfl ?_
   refine WL.o rfl rfl ?_
   refine WL.o rfl rfl ?_
   refine WL.o rfl rfl ?_
   refine WL.g rfl rfl (Y.pick rfl rfl) ?_
   refine WL.v (Y.pick rfl rfl) ?_
   refine WL.a rfl ?_
   refine WL.nil (hK4 _ _ ?_); try clear hK4 K4
   refine CW.ret ⟨_, rfl, ?_⟩
   exact ⟨by simp_all [nameLt], hE⟩
set_option maxHeartbeats 1000000 in
theorem rput_any (g : Nat) (ad : List Dig) (rs : List Rn) (av ev_ : Value) (u : Value) (l : List Nat) (p : Nat) (w : World) (hR : RtAt w g ad rs av ev_) (hn : rs.length ≤ 400001) (hu : Own w TI8 1 u (intC l)) (hll : l.length ≤ 400001) (hp : p < rs.length) (hlr : ∀ q ∈ l, q < rs.length) : Calls Tryz.prog 56 #[.pointer (some ⟨g, 0, none⟩), u, .int .i64 (p : Int)] w (Ret fun v w' => Own w' TI8 1 v (intC (putN (fun q => nameLt (nm (rels rs) p) (nm (rels rs) q)) p l)) ∧ (∀ k, v.ownBlock = some k → w.heap.size ≤ k) ∧ Ext w w') := by
 obtain ⟨f, hf⟩ : ∃ f, f = fun q => nameLt (nm (rels rs) p) (nm (rels rs) q) := ⟨_, rfl⟩
 rw [← hf]
 have hfq : ∀ q, f q = nameLt (nm (rels rs) p) (nm (rels rs) q) := fun q => by rw [hf]
 obtain ⟨A, m, c, rfl⟩ := hu.lens
 obtain ⟨hlm, hlg⟩ := int_map hu
 have hcc := (hu.mem A m c rfl).2.2.2
 unfold maxLen at hcc
 refine calls_of_CW 45 [6] [(0, .pointer (some ⟨g, 0, none⟩)), (1, .slice A m c), (2, .int .i64 (p : Int))] Tryz.func56 rfl rfl rfl (by simp) args3 ?_
 have hE : Ext w w := Chg.refl
 refine CW.sr fun K1 hK1 => ?_
 refine WL.a rfl ?_
 refine WL.nil (hK1 _ _ ?_); try clear hK1 K1
 refine CW.sr fun K2 hK2 => ?_
 refine WL.a rfl ?_
 refine WL.nil (hK2 _ _ ?_); try clear hK2 K2
 refine CW.sr fun K3 hK3 => ?_
 refine WL.a rfl ?_
 refine WL.nil (hK3 _ _ ?_); try clear hK3 K3
 refine CW.seq fun K4 hK4 => ?_
 refine CW.sr fun K5 hK5 => ?_
 refine WL.a rfl ?_
 refine WL.nil (hK5 _ _ ?_); try clear hK5 K5
 refine CW.block ?_
 refine CW.loop (X := Nat × Value) (fun x => [(0, .pointer (some ⟨g, 0, none⟩)), (1, .slice A m c), (2, .int .i64 (p : Int)), (7, x.2), (8, .bool ((l.take x.1).foldl (pstep f p) ([], false)).2), (9, .int .i64 (x.1 : Int))]) (fun x w0 => x.1 ≤ m ∧ Own w0 TI8 1 x.2 (intC ((l.take x.1).foldl (pstep f p) ([], false)).1) ∧ (∀ b, x.2.ownBlock = some b → w.heap.size ≤ b) ∧ Ext w w0) (fun x => m - x.1) (0, .slice none 0 0) Fr.ok ⟨Nat.zero_le _, Own.nil, (fun b hb => by simp [Value.ownBlock] at hb), Chg.refl⟩ ?_
 intro x w1 hl1
 obtain ⟨k, u1⟩ := x
 dsimp only at hl1 ⊢
 obtain ⟨hkm, hO, hfr, hE⟩ := hl1
 refine CW.seq fun K6 hK6 => ?_
 refine CW.sr fun K7 hK7 => ?_
 refine WL.m rfl ?_
 refine WL.m rfl ?_
 refine WL.v (Y.len_slice Tryz.underlying23 rfl) ?_
 refine WL.v (Y.lss rfl rfl) ?_
 refine WL.nil (hK7 _ _ ?_); try clear hK7 K7
 (first | refine CW.condD rfl ?_ ?_ | refine CW.condND rfl ?_ ?_ | refine CW.condN rfl ?_ ?_ | refine CW.cond rfl ?_ ?_) <;> intro ht8
 ·
  -- then
  refine CW.skip ?_
  refine hK6 _ _ ?_; try clear hK6 K6
  refine CW.seq fun K9 hK9 => ?_
  refine CW.block ?_
  obtain ⟨q, hq⟩ : ∃ q, l[k]? = some q := ⟨_, List.getElem?_eq_getElem (by omega)⟩
  obtain ⟨a, rfl, hma⟩ := hlg k q hq
  have hpl := pstep_len (f := f) (n := p) (l.take k) ([], false)
  rw [List.length_take] at hpl
  simp only [List.length_nil] at hpl
  have hst := foldl_takeS (g := pstep f p) (b := ([], false)) hq
  refine CW.seq_to (X := Value) (fun u2 => [(0, .pointer (some ⟨g, 0, none⟩)), (1, .slice (some a) m c), (2, .int .i64 (p : Int)), (7, u2), (8, .bool (((l.take k).foldl (pstep f p) ([], false)).2 || f q)), (9, .int .i64 (k : Int))]) (fun u2 w0 => Own w0 TI8 1 u2 (intC (if ((l.take k).foldl (pstep f p) ([], false)).2 = false ∧ f q = true then ((l.take k).foldl (pstep f p) ([], false)).1 ++ [p] else ((l.take k).foldl (pstep f p) ([], false)).1)) ∧ (∀ b, u2.ownBlock = some b → w.heap.size ≤ b) ∧ Ext w w0) ?_ ?_
  ·
   skip
   refine CW.seq_testE 26 (((l.take k).foldl (pstep f p) ([], false)).2 = false ∧ f q = true) ?_ ?_
   ·
    refine CW.region ?_
    refine WL.m rfl ?_
    refine WL.v (Y.not rfl) ?_
    refine WL.m rfl ?_
    (first | refine WL.casesD (d := 18) rfl ?_ ?_ | refine WL.casesND (d := 18) rfl ?_ ?_ | refine WL.cases (d := 18) rfl ?_ ?_) <;> intro hg18
    ·
     -- t18 = T
     refine WL.g rfl rfl (Y.move rfl) ?_
     refine WL.g rfl rfl (Y.move rfl) ?_
     refine WL.g rfl rfl (Y.move rfl) ?_
     refine WL.g rfl rfl (Y.move rfl) ?_
     refine WL.g rfl rfl (Y.indexAddrN Tryz.underlying23 rfl rfl sz0_int (by omega)) ?_
     refine WL.g rfl rfl (Y.load1 Tryz.underlying3 rfl ((hma.ext hE).cell0) rfl) ?_
     refine WL.gcall rfl rfl Tryz.func80 rfl rfl rfl (rahead_any g ad rs av ev_ p q _ (hR.ext hE) hn hp (hlr q (List.mem_of_getElem? hq))) (by decide) ?_; rintro v w2 ⟨rfl, hx2⟩; have hz2 := hx2.size; have hE := hE.thenExt hx2
     refine WL.v (Y.pick rfl rfl) ?_
     refine WL.nil ⟨⟨_, rfl, ?_⟩, hx2, Fr.okp⟩
     exact tst_ok
    ·
     -- t18 = F
     refine WL.o rfl rfl ?_
     refine WL.o rfl rfl ?_
     refine WL.o rfl rfl ?_
     refine WL.o rfl rfl ?_
     refine WL.o rfl rfl ?_
     refine WL.o rfl rfl ?_
     refine WL.o rfl rfl ?_
     refine WL.v (Y.pick rfl rfl) ?_
     refine WL.nil ⟨⟨_, rfl, ?_⟩, Chg.refl, Fr.okp⟩
     exact tst_ok
   intro w3 hx3; have hz3 := hx3.size; have hE := hE.thenExt hx3
   (first | refine CW.condD rfl ?_ ?_ | refine CW.condND rfl ?_ ?_ | refine CW.condN rfl ?_ ?_ | refine CW.cond rfl ?_ ?_) <;> intro ht11
   ·
    -- then
    refine CW.sr fun K12 hK12 => ?_
    refine WL.m rfl ?_
    refine WL.m rfl ?_
    refine WL.st (St.buildSlice rfl (bs1_int _)) (by decide) fun v29 w4 hR4 => ?_
    obtain ⟨g29, rfl, hg29, hB29, hx4⟩ := hR4
    have hz4 := hx4.size
    have hO3 := (hO.ext hx3).ext hx4
    refine WL.st (St.append (m := 1) (news := intC [p]) UI UI ai_int rfl rfl hO3 (Fw.Src.one hB29 rfl) one_intC (by rw [intC_length]; omega)) (by decide) fun v30 w5 hR5 => ?_
    obtain ⟨hO5, hc5, hf5⟩ := hR5
    have hz5 := hc5.size
    have hE5 : Ext w w5 := (hE.thenExt hx4).step hc5 (fun b hb => hfr b hb)
    have hzE := hE.size
    refine WL.a rfl ?_
    refine WL.nil (hK12 _ _ ?_); try clear hK12 K12
    refine CW.region ?_
    refine WL.a rfl ?_
    refine WL.nil ?_
    have hc : ((l.take k).foldl (pstep f p) ([], false)).2 = false ∧ f q = true := by assumption
    exact ⟨v30, (by rw [hc.2, Bool.or_true]; exact Fr.ok), (by rw [if_pos (by assumption), intC_app]; exact hO5), (fun b hb => by rcases hf5 with e | e; rw [e] at hb; exact hfr b hb; have := e b hb; omega), hE5⟩
   refine CW.skip ?_
   have hc : ¬ (((l.take k).foldl (pstep f p) ([], false)).2 = false ∧ f q = true) := by assumption
   have e8 : (((l.take k).foldl (pstep f p) ([], false)).2 || f q) = ((l.take k).foldl (pstep f p) ([], false)).2 := by
    cases h2 : ((l.take k).foldl (pstep f p) ([], false)).2 <;> cases h3 : f q <;> simp_all
   exact ⟨u1, (by rw [e8]; exact Fr.ok), (by rw [if_neg (by assumption)]; exact hO.ext hx3), hfr, hE⟩
  rintro u w6 hj6
  obtain ⟨hO, hfr, hE⟩ := hj6
  have hzE := hE.size
  refine CW.region ?_
  refine WL.m rfl ?_
  refine WL.m rfl ?_
  refine WL.m rfl ?_
  refine WL.v (Y.indexAddrN Tryz.underlying23 rfl rfl sz0_int (by omega)) ?_
  refine WL.v (Y.load1 Tryz.underlying3 rfl ((hma.ext hE).cell0) rfl) ?_
  refine WL.st (St.buildSlice rfl (bs1_int _)) (by decide) fun v36 w7 hR7 => ?_
  obtain ⟨g36, rfl, hg36, hB36, hx7⟩ := hR7
  have hz7 := hx7.size
  refine WL.st (St.append (m := 1) (news := intC [q]) UI UI ai_int rfl rfl (hO.ext hx7) (Fw.Src.one hB36 rfl) one_intC (by rw [intC_length]; split <;> (try rw [List.length_append]) <;> (try rw [List.length_singleton]) <;> omega)) (by decide) fun v37 w8 hR8 => ?_
  obtain ⟨hO8, hc8, hf8⟩ := hR8
  have hz8 := hc8.size
  have hE8 : Ext w w8 := (hE.thenExt hx7).step hc8 (fun b hb => hfr b hb)
  rw [← intC_app] at hO8
  refine WL.a rfl ?_
  refine WL.nil (hK9 _ _ ?_); try clear hK9 K9
  refine CW.region ?_
  refine WL.m rfl ?_
  refine WL.v (Y.add rfl rfl ⟨by omega, by omega⟩) ?_
  refine WL.a rfl ?_
  refine WL.nil ?_
  have hps : (l.take (k + 1)).foldl (pstep f p) ([], false) = ((if ((l.take k).foldl (pstep f p) ([], false)).2 = false ∧ f q = true then ((l.take k).foldl (pstep f p) ([], false)).1 ++ [p] else ((l.take k).foldl (pstep f p) ([], false)).1) ++ [q], ((l.take k).foldl (pstep f p) ([], false)).2 || f q) := by
   rw [hst, pstep]
   by_cases h1 : ((l.take k).foldl (pstep f p) ([], false)).2 = false ∧ f q = true
   ·
    rw [if_pos h1, if_pos h1, h1.2]; simp
   ·
    rw [if_neg h1, if_neg h1]
    congr 1
    cases h2 : ((l.take k).foldl (pstep f p) ([], false)).2 <;> cases h3 : f q <;> simp_all
  exact ⟨(k + 1, v37), (by show m - (k + 1) < m - k; omega), (by rw [hps]; exact Fr.ok), (by show k + 1 ≤ m; omega), (by rw [hps]; exact hO8), (fun b hb => by rcases hf8 with e | e; rw [e] at hb; exact hfr b hb; have := e b hb; omega), hE8⟩
 refine CW.exit ?_
 refine hK4 _ _ ?_; try clear hK4 K4
 have hke : l.take k = l := List.take_of_length_le (by omega)
 have hput := pstep_put (f := f) (n := p) l []
 rw [hke] at hO
 have hpl := pstep_len (f := f) (n := p) l ([], false)
 simp only [List.length_nil] at hpl
 refine CW.seq_to (X := Value) (fun u2 => [(7, u2)]) (fun u2 w0 => Own w0 TI8 1 u2 (intC (putN f p l)) ∧ (∀ b, u2.ownBlock = some b → w.heap.size ≤ b) ∧ Ext w w0) ?_ ?_
 ·
  skip
  refine CW.sr fun K14 hK14 => ?_
  refine WL.m rfl ?_
  refine WL.v (Y.not rfl) ?_
  refine WL.nil (hK14 _ _ ?_); try clear hK14 K14
  (first | refine CW.condD rfl ?_ ?_ | refine CW.condND rfl ?_ ?_ | refine CW.condN rfl ?_ ?_ | refine CW.cond rfl ?_ ?_) <;> intro ht15
  ·
   -- then
   refine CW.region ?_
   refine WL.m rfl ?_
   refine WL.m rfl ?_
   refine WL.st (St.buildSlice rfl (bs1_int _)) (by decide) fun v42 w9 hR9 => ?_
   obtain ⟨g42, rfl, hg42, hB42, hx9⟩ := hR9
   have hz9 := hx9.size
   refine WL.st (St.append (m := 1) (news := intC [p]) UI UI ai_int rfl rfl (hO.ext hx9) (Fw.Src.one hB42 rfl) one_intC (by rw [intC_length]; omega)) (by decide) fun v43 w10 hR10 => ?_
   obtain ⟨hO10, hc10, hf10⟩ := hR10
   have hz10 := hc10.size
   have hE10 : Ext w w10 := (hE.thenExt hx9).step hc10 (fun b hb => hfr b hb)
   have hzE := hE.size
   refine WL.a rfl ?_
   refine WL.nil ?_
   have hd : (l.foldl (pstep f p) ([], false)).2 = false := by rw [← hke]; simp_all
   rw [if_neg (by rw [hd]; decide)] at hput
   exact ⟨v43, Fr.ok, (by rw [← intC_app, hput] at hO10; exact hO10), (fun b hb => by rcases hf10 with e | e; rw [e] at hb; exact hfr b hb; have := e b hb; omega), hE10⟩
  refine CW.skip ?_
  have hd : (l.foldl (pstep f p) ([], false)).2 = true := by rw [← hke]; simp_all
  rw [if_pos hd] at hput
  exact ⟨u1, Fr.ok, (by rw [hput] at hO; exact hO), hfr, hE⟩
 rintro u w11 hj11
 obtain ⟨hO, hfr, hE⟩ := hj11
 refine CW.sr fun K16 hK16 => ?_
 refine WL.m rfl ?_
 refine WL.a rfl ?_
 refine WL.nil (hK16 _ _ ?_); try clear hK16 K16
 refine CW.ret ⟨_, rfl, ?_⟩
 exact ⟨hO, hfr, hE⟩
end Go.Proofs.YtjbeooimhoilmaaGreatDoor
/- The document's trees: Wrong, Add, walked. No condition. -/
namespace Go.Proofs.YtjbeooimhoilmaaGreatDoor
open Go.RowKit Go.Fw Go.Fu Go.Pl
theorem findV_neg (e : List El) (r : RefD) : findV e r < 0 ↔ atE e r = none := by
 unfold findV
 cases atE e r <;> simp <;> omega
theorem tIn_any (u : Value) (l : List Dig) (k : Dig) (w : World) (hl : Sl w digC 32 u l) : Calls Tryz.prog 33 #[u, digV k] w (Ret fun r w' => r = .bool (decide (k ∈ l)) ∧ Ext w w') := by
 obtain ⟨A, m, c, rfl, hm, hmc, hcm, hux⟩ := id hl
 unfold maxLen at hcm
 refine calls_of_CW 18 [4] [(0, .slice A m c), (1, digV k)] Tryz.func33 rfl rfl rfl (by simp) args2 ?_
 have hE : Ext w w := Chg.refl
 refine CW.sr fun K1 hK1 => ?_
 refine WL.box rfl rfl (by decide) fun g3 w1 hx1 hg3 hB3 => ?_
 have hlt3 := hB3.lt; have hz1 := hx1.size
 have hM3 := hB3.mem; have hz1 := hx1.size; have hE := hE.thenExt hx1
 refine WL.a rfl ?_
 refine WL.nil (hK1 _ _ ?_); try clear hK1 K1
 refine CW.seq fun K2 hK2 => ?_
 refine CW.sr fun K3 hK3 => ?_
 refine WL.a rfl ?_
 refine WL.nil (hK3 _ _ ?_); try clear hK3 K3
 refine CW.block ?_
 refine CW.loop (X := Nat) (fun x => [(0, .slice A m c), (3, .pointer (some ⟨g3, 0, none⟩)), (5, .int .i64 (x : Int))]) (fun x w0 => x ≤ l.length ∧ k ∉ l.take x ∧ Ext w w0 ∧ Blk w0 g3 43 (digC k)) (fun x => l.length - x) 0 Fr.ok ⟨Nat.zero_le _, by simp, hE, hB3⟩ ?_
 intro x w2 hl2
 obtain ⟨hx, hno, hE, hB3⟩ := hl2
 refine CW.seq fun K4 hK4 => ?_
 refine CW.sr fun K5 hK5 => ?_
 refine WL.m rfl ?_
 refine WL.m rfl ?_
 refine WL.v (Y.len_slice Tryz.underlying24 rfl) ?_
 refine WL.v (Y.lss rfl rfl) ?_
 refine WL.nil (hK5 _ _ ?_); try clear hK5 K5
 (first | refine CW.condD rfl ?_ ?_ | refine CW.condND rfl ?_ ?_ | refine CW.condN rfl ?_ ?_ | refine CW.cond rfl ?_ ?_) <;> intro ht6
 ·
  -- then
  refine CW.skip ?_
  refine hK4 _ _ ?_; try clear hK4 K4
  refine CW.seq fun K7 hK7 => ?_
  refine CW.block ?_
  refine CW.seq fun K8 hK8 => ?_
  obtain ⟨d, hd⟩ : ∃ d, l[x]? = some d := ⟨_, List.getElem?_eq_getElem (by omega)⟩
  obtain ⟨a, rfl, hmd⟩ := (hl.ext hE).get hd
  refine CW.quiet (fun wq => Ext w2 wq) (by kernel_rfl) (by kernel_rfl) Chg.drew ?_
  refine QL.m rfl ?_
  refine QL.m rfl ?_
  refine QL.v (fun wq hq => Y.indexAddrN Tryz.underlying24 rfl rfl sz0_apiDigest (by omega)) ?_
  refine QL.v (fun wq hq => Y.load Tryz.underlying43 rfl (hmd.ext hq) (sz_apiDigest _) rfl) ?_
  refine QL.v (fun wq hq => Y.load Tryz.underlying43 rfl (hB3.ext hq).mem (sz_apiDigest _) rfl) ?_
  refine QL.v (fun wq hq => Y.eql_apiDigest rfl rfl) ?_
  refine QL.nil fun w3 hx3 => ?_
  have hz3 := hx3.size
  have hE := hE.thenExt hx3
  have hB3 := hB3.ext hx3
  refine hK8 _ _ ?_; try clear hK8 K8
  (first | refine CW.condD rfl ?_ ?_ | refine CW.condND rfl ?_ ?_ | refine CW.condN rfl ?_ ?_ | refine CW.cond rfl ?_ ?_) <;> intro ht9
  ·
   -- then
   refine CW.sr fun K10 hK10 => ?_
   refine WL.a rfl ?_
   refine WL.nil (hK10 _ _ ?_); try clear hK10 K10
   refine CW.ret ⟨_, rfl, ?_⟩
   have hkl : k ∈ l := by
    have h : d = k := by assumption
    rw [← h]
    exact List.mem_of_getElem? hd
   exact ⟨by rw [decide_eq_true hkl], hE⟩
  refine CW.skip ?_
  refine hK7 _ _ ?_; try clear hK7 K7
  refine CW.region ?_
  refine WL.m rfl ?_
  refine WL.v (Y.add rfl rfl ⟨by omega, by omega⟩) ?_
  refine WL.a rfl ?_
  refine WL.nil ?_
  refine ⟨x + 1, by show l.length - (x + 1) < l.length - x; omega, Fr.ok, by show x + 1 ≤ l.length; omega, ?_, hE, hB3⟩
  show k ∉ l.take (x + 1)
  rw [take_succ hd, List.mem_append, List.mem_singleton]
  have hne : ¬ d = k := by assumption
  rintro (h | h)
  ·
   exact hno h
  ·
   exact hne h.symm
 refine CW.exit ?_
 refine hK2 _ _ ?_; try clear hK2 K2
 refine CW.sr fun K11 hK11 => ?_
 refine WL.a rfl ?_
 refine WL.nil (hK11 _ _ ?_); try clear hK11 K11
 refine CW.ret ⟨_, rfl, ?_⟩
 exact ⟨by rw [decide_eq_false (by have h1 : l.take x = l := List.take_of_length_le (by omega); rw [← h1]; exact hno)], hE⟩
theorem rwrong_any (g : Nat) (ad : List Dig) (rs : List Rn) (av ev_ : Value) (id : Dig) (u : Value) (ops : List OpD) (w : World) (hR : RtAt w g ad rs av ev_) (hn : rs.length ≤ 400001) (hl : Sl w opC 37 u ops) : Calls Tryz.prog 54 #[.pointer (some ⟨g, 0, none⟩), digV id, u] w (Ret fun v w' => v = .int .i64 (wrongC ⟨ad, rels rs⟩ id ops) ∧ Ext w w') := by
 obtain ⟨A, m, c, rfl, hm, hmc, hcm, _⟩ := _root_.id hl
 unfold maxLen at hcm
 have hlo2 := hl
 have hRo := hR
 have hel : (rels rs).length = rs.length := List.length_map _
 obtain ⟨EA, em, ec, rfl⟩ := hR.es.lens
 have hem : rs.length = em := by
  obtain ⟨A', m', c', e, h1, _⟩ := hR.sl
  injection e with e1 e2 e3
  omega
 have hik : ∀ k, insN (ops.take k) ≤ k := fun k => by
  have h1 := List.countP_le_length (p := fun x : OpD => decide (x.kind = 1)) (l := ops.take k)
  rw [List.length_take] at h1
  unfold insN; omega
 have hfn := findV_neg (rels rs)
 refine calls_of_CW 75 [6] [(0, .pointer (some ⟨g, 0, none⟩)), (1, digV id), (2, .slice A m c)] Tryz.func54 rfl rfl rfl (by simp) args3 ?_
 have hE : Ext w w := Chg.refl
 refine CW.sr fun K1 hK1 => ?_
 refine WL.box rfl rfl (by decide) fun g4 w1 hx1 hg4 hB4 => ?_
 have hlt4 := hB4.lt; have hz1 := hx1.size
 have hM4 := hB4.mem; have hz1 := hx1.size; have hE := hE.thenExt hx1
 refine WL.a rfl ?_
 refine WL.nil (hK1 _ _ ?_); try clear hK1 K1
 refine CW.seq fun K2 hK2 => ?_
 refine CW.seq fun K3 hK3 => ?_
 refine CW.quiet (fun wq => Ext w1 wq) (by kernel_rfl) (by kernel_rfl) Chg.drew ?_
 refine QL.m rfl ?_
 refine QL.v (fun wq hq => Y.nilCheck rfl) ?_
 refine QL.v (fun wq hq => Y.fieldAddr fo_recensionref08Tree0 rfl) ?_
 refine QL.v (fun wq hq => Y.load1 Tryz.underlying24 rfl (((hR.ext hE).ext hq).blk.mem.recensionref08Tree0) rfl) ?_
 refine QL.v (fun wq hq => Y.load Tryz.underlying43 rfl (hB4.ext hq).mem (sz_apiDigest _) rfl) ?_
 refine QL.call Tryz.func33 rfl rfl rfl (fun wq hq => ret_ext (tIn_any _ _ id _ (((hR.ext hE).ads.ext hq).sl digC_length (by decide))) hq) (by simp) ?_
 refine QL.nil fun w2 hx2 => ?_
 have hz2 := hx2.size
 have hE := hE.thenExt hx2
 have hB4 := hB4.ext hx2
 refine hK3 _ _ ?_; try clear hK3 K3
 (first | refine CW.condD rfl ?_ ?_ | refine CW.condND rfl ?_ ?_ | refine CW.condN rfl ?_ ?_ | refine CW.cond rfl ?_ ?_) <;> intro ht4
 ·
  -- then
  refine CW.sr fun K5 hK5 => ?_
  refine WL.a rfl ?_
  refine WL.nil (hK5 _ _ ?_); try clear hK5 K5
  refine CW.ret ⟨_, rfl, ?_⟩
  exact ⟨by rw [wrongC, if_pos (by simp_all)], hE⟩
 refine CW.skip ?_
 refine hK2 _ _ ?_; try clear hK2 K2
 refine CW.sr fun K6 hK6 => ?_
 refine WL.a rfl ?_
 refine WL.nil (hK6 _ _ ?_); try clear hK6 K6
 refine CW.seq fun K7 hK7 => ?_
 refine CW.sr fun K8 hK8 => ?_
 refine WL.a rfl ?_
 refine WL.nil (hK8 _ _ ?_); try clear hK8 K8
 refine CW.block ?_
 refine CW.loop (X := Nat) (fun x => [(0, .pointer (some ⟨g, 0, none⟩)), (2, .slice A m c), (4, .pointer (some ⟨g4, 0, none⟩)), (7, .int .i64 (insN (ops.take x) : Int)), (8, .int .i64 (x : Int))]) (fun x w0 => x ≤ m ∧ Ext w w0 ∧ Blk w0 g4 43 (digC id)) (fun x => m - x) 0 Fr.ok ⟨Nat.zero_le _, hE, hB4⟩ ?_
 intro x w3 hl3
 obtain ⟨hxm, hE, hB4⟩ := hl3
 have hR := hRo.ext hE
 have hl := hlo2.ext hE
 have hzl := hE.size
 refine CW.seq fun K9 hK9 => ?_
 refine CW.sr fun K10 hK10 => ?_
 refine WL.m rfl ?_
 refine WL.m rfl ?_
 refine WL.v (Y.len_slice Tryz.underlying46 rfl) ?_
 refine WL.v (Y.lss rfl rfl) ?_
 refine WL.nil (hK10 _ _ ?_); try clear hK10 K10
 (first | refine CW.condD rfl ?_ ?_ | refine CW.condND rfl ?_ ?_ | refine CW.condN rfl ?_ ?_ | refine CW.cond rfl ?_ ?_) <;> intro ht11
 ·
  -- then
  refine CW.skip ?_
  refine hK9 _ _ ?_; try clear hK9 K9
  obtain ⟨o, ho⟩ : ∃ o, ops[x]? = some o := ⟨_, List.getElem?_eq_getElem (by omega)⟩
  obtain ⟨aa, rfl, hma⟩ := hlo2.get ho
  have hstep := insN_step (ops := ops) ho
  have hix := hik x
  refine CW.seq_to (X := Unit) (fun _ => [(0, .pointer (some ⟨g, 0, none⟩)), (2, .slice (some aa) m c), (4, .pointer (some ⟨g4, 0, none⟩)), (7, .int .i64 (insN (ops.take (x + 1)) : Int)), (8, .int .i64 (x : Int))]) (fun _ w0 => Ext w w0 ∧ Blk w0 g4 43 (digC id)) ?_ ?_
  ·
   skip
   refine CW.block ?_
   refine CW.sr fun K13 hK13 => ?_
   refine WL.m rfl ?_
   refine WL.m rfl ?_
   refine WL.v (Y.indexAddrN Tryz.underlying46 rfl rfl sz0_apiOp (by omega)) ?_
   refine WL.v (Y.fieldAddr fo_apiOp0 rfl) ?_
   refine WL.v (Y.load1 Tryz.underlying3 rfl ((hma.ext hE).op0) rfl) ?_
   refine WL.v (Y.eql rfl rfl) ?_
   refine WL.nil (hK13 _ _ ?_); try clear hK13 K13
   (first | refine CW.condD rfl ?_ ?_ | refine CW.condND rfl ?_ ?_ | refine CW.condN rfl ?_ ?_ | refine CW.cond rfl ?_ ?_) <;> intro ht14
   ·
    -- then
    refine CW.region ?_
    refine WL.m rfl ?_
    refine WL.v (Y.add rfl rfl ⟨by omega, by omega⟩) ?_
    refine WL.a rfl ?_
    refine WL.nil ?_
    refine ⟨(), ?_, hE, hB4⟩
    rw [hstep, if_pos (by assumption)]
    exact Fr.ok
   refine CW.skip ?_
   refine ⟨(), ?_, hE, hB4⟩
   rw [hstep, if_neg (by assumption)]
   exact Fr.ok
  rintro u w4 hj4
  obtain ⟨hE, hB4⟩ := hj4
  have hR := hRo.ext hE
  have hl := hlo2.ext hE
  refine CW.region ?_
  refine WL.m rfl ?_
  refine WL.v (Y.add rfl rfl ⟨by omega, by omega⟩) ?_
  refine WL.a rfl ?_
  refine WL.nil ?_
  exact ⟨x + 1, (by show m - (x + 1) < m - x; omega), Fr.ok, (by show x + 1 ≤ m; omega), hE, hB4⟩
 refine CW.exit ?_
 refine hK7 _ _ ?_; try clear hK7 K7
 refine CW.seq fun K15 hK15 => ?_
 have htk : ops.take x = ops := List.take_of_length_le (by omega)
 have hins := hik x
 rw [htk] at hins ⊢
 have hnid : id ∉ ad := by simp_all
 refine CW.seq_test 44 (2000 < m ∨ 400000 < insN ops + (rs.length - 1)) ?_ ?_
 ·
  refine CW.region ?_
  refine WL.m rfl ?_
  refine WL.v (Y.len_slice Tryz.underlying46 rfl) ?_
  refine WL.v (Y.gtr rfl rfl) ?_
  refine WL.m rfl ?_
  (first | refine WL.casesD (d := 34) rfl ?_ ?_ | refine WL.casesND (d := 34) rfl ?_ ?_ | refine WL.cases (d := 34) rfl ?_ ?_) <;> intro hg34
  ·
   -- t34 = T
   refine WL.o rfl rfl ?_
   refine WL.o rfl rfl ?_
   refine WL.o rfl rfl ?_
   refine WL.o rfl rfl ?_
   refine WL.o rfl rfl ?_
   refine WL.o rfl rfl ?_
   refine WL.o rfl rfl ?_
   refine WL.o rfl rfl ?_
   refine WL.o rfl rfl ?_
   refine WL.v (Y.pick rfl rfl) ?_
   refine WL.nil ⟨⟨_, rfl, ?_⟩, rfl, Fr.okp⟩
   exact tst_ok
  ·
   -- t34 = F
   refine WL.g rfl rfl (Y.move rfl) ?_
   refine WL.g rfl rfl (Y.move rfl) ?_
   refine WL.g rfl rfl (Y.nilCheck rfl) ?_
   refine WL.g rfl rfl (Y.fieldAddr fo_recensionref08Tree1 rfl) ?_
   refine WL.g rfl rfl (Y.load1 Tryz.underlying60 rfl hR.blk.mem.recensionref08Tree1 rfl) ?_
   refine WL.g rfl rfl (Y.len_slice Tryz.underlying60 rfl) ?_
   refine WL.g rfl rfl (Y.add rfl rfl ⟨by omega, by omega⟩) ?_
   refine WL.g rfl rfl (Y.sub rfl rfl ⟨by omega, by omega⟩) ?_
   refine WL.g rfl rfl (Y.gtr rfl rfl) ?_
   refine WL.v (Y.pick rfl rfl) ?_
   refine WL.nil ⟨⟨_, rfl, ?_⟩, rfl, Fr.okp⟩
   exact tst_ok
 (first | refine CW.condD rfl ?_ ?_ | refine CW.condND rfl ?_ ?_ | refine CW.condN rfl ?_ ?_ | refine CW.cond rfl ?_ ?_) <;> intro ht16
 ·
  -- then
  refine CW.sr fun K17 hK17 => ?_
  refine WL.a rfl ?_
  refine WL.nil (hK17 _ _ ?_); try clear hK17 K17
  refine CW.ret ⟨_, rfl, ?_⟩
  exact ⟨by rw [wrongC, if_neg hnid, if_pos (by rw [hm, hel]; assumption)], hE⟩
 refine CW.skip ?_
 refine hK15 _ _ ?_; try clear hK15 K15
 refine CW.seq fun K18 hK18 => ?_
 refine CW.sr fun K19 hK19 => ?_
 refine WL.a rfl ?_
 refine WL.nil (hK19 _ _ ?_); try clear hK19 K19
 refine CW.block ?_
 refine CW.loop (X := Nat) (fun x => [(0, .pointer (some ⟨g, 0, none⟩)), (2, .slice A m c), (4, .pointer (some ⟨g4, 0, none⟩)), (9, .int .i64 (x : Int))]) (fun x w0 => x ≤ m ∧ wrongN (rels rs) ops x = 0 ∧ Ext w w0 ∧ Blk w0 g4 43 (digC id)) (fun x => m - x) 0 Fr.ok ⟨Nat.zero_le _, rfl, hE, hB4⟩ ?_
 intro x w5 hl5
 obtain ⟨hxm, hwn, hE, hB4⟩ := hl5
 have hR := hRo.ext hE
 have hl := hlo2.ext hE
 have hzl := hE.size
 have hn4 : ¬ (2000 < ops.length ∨ 400000 < insN ops + ((rels rs).length - 1)) := by rw [hm, hel]; assumption
 refine CW.seq fun K20 hK20 => ?_
 refine CW.sr fun K21 hK21 => ?_
 refine WL.m rfl ?_
 refine WL.m rfl ?_
 refine WL.v (Y.len_slice Tryz.underlying46 rfl) ?_
 refine WL.v (Y.lss rfl rfl) ?_
 refine WL.nil (hK21 _ _ ?_); try clear hK21 K21
 (first | refine CW.condD rfl ?_ ?_ | refine CW.condND rfl ?_ ?_ | refine CW.condN rfl ?_ ?_ | refine CW.cond rfl ?_ ?_) <;> intro ht22
 ·
  -- then
  refine CW.skip ?_
  refine hK20 _ _ ?_; try clear hK20 K20
  refine CW.seq fun K23 hK23 => ?_
  refine CW.block ?_
  refine CW.seq fun K24 hK24 => ?_
  obtain ⟨o, ho⟩ : ∃ o, ops[x]? = some o := ⟨_, List.getElem?_eq_getElem (by omega)⟩
  obtain ⟨aa, rfl, hma⟩ := hlo2.get ho
  refine CW.region ?_
  refine WL.m rfl ?_
  refine WL.m rfl ?_
  refine WL.v (Y.add rfl rfl ⟨by omega, by omega⟩) ?_
  refine WL.call Tryz.func79 rfl rfl rfl (rRight_any _ ops ((x : Int) + 1) _ hl ⟨by omega, by omega⟩) (by simp) ?_; rintro v w6 ⟨rfl, hx6⟩; have hz6 := hx6.size; have hE := hE.thenExt hx6; have hB4 := hB4.ext hx6
  refine WL.a rfl ?_
  refine WL.nil (hK24 _ _ ?_); try clear hK24 K24
  refine CW.seq fun K25 hK25 => ?_
  refine CW.sr fun K26 hK26 => ?_
  refine WL.m rfl ?_
  refine WL.v (Y.neq rfl rfl) ?_
  refine WL.nil (hK26 _ _ ?_); try clear hK26 K26
  (first | refine CW.condD rfl ?_ ?_ | refine CW.condND rfl ?_ ?_ | refine CW.condN rfl ?_ ?_ | refine CW.cond rfl ?_ ?_) <;> intro ht27
  ·
   -- then
   refine CW.sr fun K28 hK28 => ?_
   refine WL.m rfl ?_
   refine WL.a rfl ?_
   refine WL.nil (hK28 _ _ ?_); try clear hK28 K28
   refine CW.ret ⟨_, rfl, ?_⟩
   exact ⟨by rw [wrongC, if_neg hnid, if_neg hn4, wrongN_end ho hwn (by rw [wrongAt, if_pos (by assumption)]; assumption), wrongAt, if_pos (by assumption)], hE⟩
  refine CW.skip ?_
  refine hK25 _ _ ?_; try clear hK25 K25
  refine CW.seq_testE 74 (refKind o.at_ = 2 ∧ atE (rels rs) o.at_ = none) ?_ ?_
  ·
   refine CW.region ?_
   refine WL.m rfl ?_
   refine WL.m rfl ?_
   refine WL.v (Y.indexAddrN Tryz.underlying46 rfl rfl sz0_apiOp (by omega)) ?_
   refine WL.v (Y.fieldAddr fo_apiOp2 rfl) ?_
   refine WL.v (Y.load Tryz.underlying68 rfl ((hma.ext hE).op2) (sz_apiRef _) rfl) ?_
   refine WL.call Tryz.func45 rfl rfl rfl (rRef_any _ _) (by simp) ?_; rintro v w7 ⟨rfl, hx7⟩; have hz7 := hx7.size; have hE := hE.thenExt hx7; have hB4 := hB4.ext hx7
   refine WL.v (Y.eql rfl rfl) ?_
   refine WL.m rfl ?_
   (first | refine WL.casesD (d := 65) rfl ?_ ?_ | refine WL.casesND (d := 65) rfl ?_ ?_ | refine WL.cases (d := 65) rfl ?_ ?_) <;> intro hg65
   ·
    -- t65 = T
    refine WL.g rfl rfl (Y.move rfl) ?_
    refine WL.g rfl rfl (Y.move rfl) ?_
    refine WL.g rfl rfl (Y.move rfl) ?_
    refine WL.g rfl rfl (Y.indexAddrN Tryz.underlying46 rfl rfl sz0_apiOp (by omega)) ?_
    refine WL.g rfl rfl (Y.fieldAddr fo_apiOp2 rfl) ?_
    refine WL.g rfl rfl (Y.load Tryz.underlying68 rfl ((hma.ext hE).op2) (sz_apiRef _) rfl) ?_
    refine WL.gcall rfl rfl Tryz.func55 rfl rfl rfl (rfind_any g ad rs av _ o.at_ _ (hRo.ext hE) hn) (by decide) ?_; rintro v w8 ⟨rfl, hx8⟩; have hz8 := hx8.size; have hE := hE.thenExt hx8; have hB4 := hB4.ext hx8
    refine WL.g rfl rfl (Y.lss rfl rfl) ?_
    refine WL.v (Y.pick rfl rfl) ?_
    refine WL.nil ⟨⟨_, rfl, ?_⟩, (hx7.thenExt hx8), Fr.okp⟩
    exact tst_ok
   ·
    -- t65 = F
    refine WL.o rfl rfl ?_
    refine WL.o rfl rfl ?_
    refine WL.o rfl rfl ?_
    refine WL.o rfl rfl ?_
    refine WL.o rfl rfl ?_
    refine WL.o rfl rfl ?_
    refine WL.o rfl rfl ?_
    refine WL.o rfl rfl ?_
    refine WL.v (Y.pick rfl rfl) ?_
    refine WL.nil ⟨⟨_, rfl, ?_⟩, hx7, Fr.okp⟩
    exact tst_ok
  intro w9 hx9; have hz9 := hx9.size; have hE := hE.thenExt hx9; have hB4 := hB4.ext hx9
  (first | refine CW.condD rfl ?_ ?_ | refine CW.condND rfl ?_ ?_ | refine CW.condN rfl ?_ ?_ | refine CW.cond rfl ?_ ?_) <;> intro ht29
  ·
   -- then
   refine CW.sr fun K30 hK30 => ?_
   refine WL.a rfl ?_
   refine WL.nil (hK30 _ _ ?_); try clear hK30 K30
   refine CW.ret ⟨_, rfl, ?_⟩
   have hwa : wrongAt (rels rs) ops x o = 5 := by rw [wrongAt, if_neg (by assumption), if_pos (by assumption)]
   exact ⟨by rw [wrongC, if_neg hnid, if_neg hn4, wrongN_end ho hwn (by rw [hwa]; decide), hwa], hE⟩
  refine CW.skip ?_
  refine hK23 _ _ ?_; try clear hK23 K23
  refine CW.region ?_
  refine WL.m rfl ?_
  refine WL.v (Y.add rfl rfl ⟨by omega, by omega⟩) ?_
  refine WL.a rfl ?_
  refine WL.nil ?_
  exact ⟨x + 1, (by show m - (x + 1) < m - x; omega), Fr.ok, (by show x + 1 ≤ m; omega), (by rw [wrongN_at ho hwn, wrongAt, if_neg (by assumption), if_neg (by assumption)]), hE, hB4⟩
 refine CW.exit ?_
 refine hK18 _ _ ?_; try clear hK18 K18
 refine CW.sr fun K31 hK31 => ?_
 refine WL.a rfl ?_
 refine WL.nil (hK31 _ _ ?_); try clear hK31 K31
 refine CW.ret ⟨_, rfl, ?_⟩
 have hxe : x = ops.length := by omega
 exact ⟨by rw [wrongC, if_neg hnid, if_neg hn4, ← hxe, hwn], hE⟩
end Go.Proofs.YtjbeooimhoilmaaGreatDoor
