/- All, walked, in: walked. No condition. -/
import Derived.Test.YtffkmlkdlhkkmaaEa
import Derived.Test.YtffkmlkdlhkkmaaFe
set_option linter.unusedSimpArgs false
set_option linter.unusedVariables false
namespace Go.Proofs.Ytffkmlkdlhkkmaa
open Go.RowKit Go.Fw Go.Fu Go.Pl
/-- Where a walk's own list lies. -/
structure AllS where
  lo : Nat
  hi : Nat
def AllSetup8 (w1 : World) (s : AllS) (V : World) : Prop := w1.heap.size ≤ s.lo ∧ s.lo ≤ s.hi ∧ s.hi ≤ V.heap.size
def allXs8 (e : List El) (_ : AllS) : List (RefD × UInt8) := (seenE e).map fun q => (nm e q, byteAt e q)
def allEnc8 (x : RefD × UInt8) : List Value := [refV x.1, bc x.2]
def allKeep8 (s : AllS) (_ : Nat) (k : Nat) : Prop := s.lo ≤ k ∧ k < s.hi
/-- What a walk reads: names and bytes. -/
def AllN (ns : List Nn) (e : List El) (V : World) : Prop := ∀ q ∈ seenE e, ∃ gn lv rv, Blk V (gOf ns q) TN (nodeC ⟨nm e q, byteAt e q, gn, [], []⟩ lv rv)
theorem FtAt.allN {w : World} {g rb ra : Nat} {ad : List Dig} {ns : List Nn} (h : FtAt w g rb ra ad ns) (hG : Fu.Good (Fw.els ns)) : AllN ns (Fw.els ns) w := fun q hq => by
  have hel : (Fw.els ns).length = ns.length := List.length_map _
  have hl := seen_lt hG.down hq
  obtain ⟨z, hz⟩ : ∃ z, ns[q]? = some z := ⟨_, List.getElem?_eq_getElem (by omega)⟩
  have hze : (Fw.els ns)[q]? = some z.el := by rw [List.getElem?_map, hz]; rfl
  exact ⟨z.el.gone, z.lv, z.rv, by rw [gOf_at hz, nm_at hze, byteAt_at hze]; exact h.node q z hz⟩
theorem ai_ref : AppInfo Try.prog 49 34 48 := by
  have h : (Try.prog.info? 49).map (fun i => (i.size, i.bytes, i.zero)) = some (34, 48, some (.agg (refC RefD.zero).toArray)) := by kernel_rfl
  obtain ⟨i, hi, h⟩ := Option.map_eq_some_iff.1 h
  injection h with h1 h2
  injection h2 with h2 h3
  exact ⟨i, _, hi, h3, h1, by show (refC RefD.zero).toArray.size = 34; simp [refC_length], h2, by decide, by decide⟩
theorem bs1_ref (r : RefD) (w : World) : (Instr.buildSlice 57 1 [(0, refV r)].toArray).run Try.prog w = .ok (.slice (some ⟨w.heap.size, 0, none⟩) 1 1) (w.alloc (.cells (refC r).toArray 49)) := by
  obtain ⟨i, z, hi, hz, hk, _⟩ := ai_ref
  exact run_bs1 Try.underlying57 hi hz (by omega) (by omega) rfl (by rw [refC_length, hk]) w
/-- Where a ref stands in a list. -/
def inI (l : List RefD) (r : RefD) : Int := match l.findIdx? fun x => decide (x = r) with
  | some i => (i : Int)
  | none => -1
theorem inI_some {l : List RefD} {r : RefD} {i : Nat} {x : RefD} (h : l[i]? = some x) (hx : x = r) (hb : ∀ (t : Nat) (p : RefD), t < i → l[t]? = some p → p ≠ r) : inI l r = (i : Int) := by
  have : l.findIdx? (fun x => decide (x = r)) = some i := by
    rw [List.findIdx?_eq_some_iff_getElem]
    obtain ⟨hl, e⟩ := List.getElem?_eq_some_iff.1 h
    exact ⟨hl, by simp [e, hx], fun j hj => by simp; exact hb j _ hj (List.getElem?_eq_getElem (by omega))⟩
  rw [inI, this]
theorem inI_none {l : List RefD} {r : RefD} (hb : ∀ (t : Nat) (p : RefD), t < l.length → l[t]? = some p → p ≠ r) : inI l r = -1 := by
  have : l.findIdx? (fun x => decide (x = r)) = none := by
    rw [List.findIdx?_eq_none_iff]
    intro x hx
    obtain ⟨t, ht⟩ := List.mem_iff_getElem?.1 hx
    simp; exact hb t x (List.getElem?_eq_some_iff.1 ht).1 ht
  rw [inI, this]

theorem fall_any (u : Addr) (w : World) : Calls Try.prog 20 #[.pointer (some u)] w (Ret fun v w' => ∃ b, v = .func (.func 43) #[] #[.pointer (some ⟨b, 0, none⟩)] ∧ w.heap.size ≤ b ∧ Blk w' b 27 [.pointer (some u)] ∧ Ext w w') := by
  refine calls_of_CW 4 [2] [(0, .pointer (some u))] Try.func20 rfl rfl rfl (by simp) args1 ?_
  have hE : Ext w w := Chg.refl
  refine CW.seq fun K1 hK1 => ?_
  refine CW.region ?_   -- region 0
  refine WL.box rfl rfl (by decide) fun g1 w1 hx1 hg1 hB1 => ?_   -- t1 := box 27 t0
  have hlt1 := hB1.lt; have hz1 := hx1.size
  have hM1 := hB1.mem; have hz1 := hx1.size; have hE := hE.thenExt hx1
  refine WL.val (Y.assign rfl) (by decide) ?_   -- t2 := assign c(Value.nilFunc)
  refine WL.nil ?_
  refine hK1 _ _ ?_; try clear hK1 K1
  refine CW.seq fun K2 hK2 => ?_
  refine CW.region ?_   -- region 1
  refine WL.val (Y.makeFunc rfl) (by decide) ?_   -- t3 := makeFunc ['Go.Fn.func', '43'] [] [t1]
  refine WL.val (Y.assign rfl) (by decide) ?_   -- t2 := assign t3
  refine WL.nil ?_
  refine hK2 _ _ ?_; try clear hK2 K2
  refine CW.ret ⟨_, rfl, ?_⟩
  exact ⟨g1, rfl, hg1, hB1, hE⟩
set_option maxRecDepth 100000 in
set_option maxHeartbeats 1000000 in
theorem fall1_any (g rb ra : Nat) (ad : List Dig) (ns : List Nn) (b : Nat) (w_ : World) (hT_ : FtAt w_ g rb ra ad ns) (hG : Fu.Good (Fw.els ns)) (hn : ns.length ≤ 400001) (hB_ : Blk w_ b 27 [.pointer (some ⟨g, 0, none⟩)]) : IterN Try.prog 43 [.pointer (some ⟨b, 0, none⟩)] w_ AllSetup8 (allXs8 (Fw.els ns)) allEnc8 (fun _ => False) allKeep8 (fun _ _ _ => True) (fun _ => True) (fun _ _ V => AllN ns (Fw.els ns) V) := by
  intro ln w J Jx hx0 hS hJ hJx hJN hR
  have hT := hT_.ext hx0
  have hB0 := hB_.ext hx0
  have hlv : (seenE (Fw.els ns)).length ≤ 400001 := by
    have h1 := List.countP_le_length (p := fun x : El => !x.gone) (l := Fw.els ns)
    rw [hG.seen_length]; rw [List.length_map] at h1; exact Nat.le_trans h1 hn
  refine calls_of_CW 24 [] [(0, .func (.yield ln) #[] #[]), (1, .pointer (some ⟨b, 0, none⟩))] Try.func43 rfl rfl rfl (by simp) args2 ?_
  have hE : Ext w w := Chg.refl
  refine CW.seq fun K1 hK1 => ?_
  refine CW.region ?_   -- region 0
  refine WL.val (Y.load1 Try.underlying27 rfl (hB0.ext hE).mem.cell0 rfl) (by decide) ?_   -- t5 := load 27 t1
  refine WL.call Try.func36 rfl rfl rfl (flist_any g rb ra ad ns _ (hT.ext hE) hG hn) (by simp) ?_; rintro v6 w1 hR1   -- t6 := call F36(t5) : 27
  obtain ⟨hO1, hf1, hx1⟩ := hR1
  have hz1 := hx1.size
  have hE := hE.thenExt hx1
  obtain ⟨A, m, c, rfl⟩ := hO1.lens
  obtain ⟨hlm, hlg⟩ := ptr_map hO1
  have hlt1 := hO1.lt
  have hcc := (hO1.mem A m c rfl).2.2.2
  unfold maxLen at hcc
  refine WL.val (Y.len_slice Try.underlying93 rfl) (by decide) ?_   -- t7 := call len(t6) : 93
  refine WL.val (Y.move rfl) (by decide) ?_   -- t8 := move c(0:i64)
  refine WL.nil ?_
  refine hK1 _ _ ?_; try clear hK1 K1
  refine CW.block ?_   -- block 0
  refine CW.loop (X := Nat) (fun x => [(0, .func (.yield ln) #[] #[]), (1, .pointer (some ⟨b, 0, none⟩)), (6, .slice A m c), (7, .int .i64 (m : Int)), (8, .int .i64 (x : Int))]) (fun x w0 => x ≤ m ∧ J ⟨w.heap.size, w1.heap.size⟩ x w0 ∧ Own w0 TP 1 (.slice A m c) (ptrL ((seenE (Fw.els ns)).map (gOf ns))) ∧ w1.heap.size ≤ w0.heap.size) (fun x => m - x) 0 (by repeat (first | exact Fr.le.nil | refine Fr.le.cons rfl ?_)) ⟨Nat.zero_le _, hS _ _ hE ⟨Nat.le_refl _, hE.size, Nat.le_refl _⟩, hO1, Nat.le_refl _⟩ ?_
  intro x w2 hl2
  obtain ⟨hxm, hj, hO, hz2⟩ := hl2
  have hE : Ext w2 w2 := Chg.refl
  obtain ⟨_, hlg2⟩ := ptr_map hO
  refine CW.seq fun K2 hK2 => ?_
  refine CW.region ?_   -- region 1
  refine WL.val (Y.lss rfl rfl) (by decide) ?_   -- t9 := binOp lss 3 t8 t7 3
  refine WL.nil ?_
  refine hK2 _ _ ?_; try clear hK2 K2
  refine CW.seq fun K3 hK3 => ?_
  first | refine CW.condD rfl (fun ht4 => ?_) (fun ht4 => ?_) | refine CW.condND rfl (fun ht4 => ?_) (fun ht4 => ?_) | refine CW.condN rfl (fun ht4 => ?_) (fun ht4 => ?_) | refine CW.cond rfl (fun ht4 => ?_) (fun ht4 => ?_)
  · -- then
    refine CW.skip ?_
    refine hK3 _ _ ?_; try clear hK3 K3
    refine CW.seq fun K5 hK5 => ?_
    refine CW.block ?_   -- block 1
    refine CW.seq fun K6 hK6 => ?_
    obtain ⟨q, hq⟩ : ∃ q, (seenE (Fw.els ns))[x]? = some q := ⟨_, List.getElem?_eq_getElem (by omega)⟩
    obtain ⟨a, rfl, hma⟩ := hlg2 x q hq
    obtain ⟨gn, lv, rv, hbn⟩ := hJN _ _ _ hj q (List.mem_of_getElem? hq)
    refine CW.region ?_   -- region 2
    refine WL.val (Y.indexAddrN Try.underlying93 rfl rfl sz0_fuguenode (by omega)) (by decide) ?_   -- t10 := indexAddr 93 t6 t8
    refine WL.val (Y.load1 Try.underlying87 rfl hma.cell0 rfl) (by decide) ?_   -- t11 := load 87 t10
    refine WL.val (Y.assign rfl) (by decide) ?_   -- t4 := assign t11
    refine WL.nil ?_
    refine hK6 _ _ ?_; try clear hK6 K6
    refine CW.seq fun K7 hK7 => ?_
    refine CW.headI 9 (by kernel_rfl) (by kernel_rfl) fun w3 hx3 => ?_   -- region 3
    skip; have hz3 := hx3.size; have hE := hE.thenExt hx3
    refine HL.val (Y.move rfl) (by decide) ?_   -- t12 := move t0
    refine HL.val (Y.move rfl) (by decide) ?_   -- t13 := move t4
    refine HL.val (Y.nilCheck rfl) (by decide) ?_   -- t14 := nilCheck t13
    refine HL.val (Y.fieldAddr fo_fuguenode0 rfl) (by decide) ?_   -- t15 := fieldAddr 96 t14 0
    refine HL.val (Y.load Try.underlying49 rfl ((hbn.ext hE).mem.fuguenode0) (sz_apiRef _) rfl) (by decide) ?_   -- t16 := load 49 t15
    refine HL.val (Y.move rfl) (by decide) ?_   -- t17 := move t4
    refine HL.val (Y.nilCheck rfl) (by decide) ?_   -- t18 := nilCheck t17
    refine HL.val (Y.fieldAddr fo_fuguenode1 rfl) (by decide) ?_   -- t19 := fieldAddr 96 t18 1
    refine HL.val (Y.load1 Try.underlying5 rfl ((hbn.ext hE).mem.fuguenode1) rfl) (by decide) ?_   -- t20 := load 5 t19
    refine HL.nil ?_
    refine WI.yield rfl rfl (hR ⟨w.heap.size, w1.heap.size⟩ x (nm (Fw.els ns) q, byteAt (Fw.els ns) q) w3 (hJ _ _ _ _ hj hE) (by show ((seenE (Fw.els ns)).map _)[x]? = _; rw [List.getElem?_map, hq]; rfl) trivial) (by decide) (fun b21 w4 hR4 => ?_)   -- t21 := call t12(t16, t20) : 49,5
    skip
    refine WI.val (Y.not rfl) (by decide) ?_   -- t22 := unOp not 4 t21
    refine WI.nil ?_
    refine hK7 _ _ ?_; try clear hK7 K7
    first | refine CW.condD rfl (fun ht8 => ?_) (fun ht8 => ?_) | refine CW.condND rfl (fun ht8 => ?_) (fun ht8 => ?_) | refine CW.condN rfl (fun ht8 => ?_) (fun ht8 => ?_) | refine CW.cond rfl (fun ht8 => ?_) (fun ht8 => ?_)
    · -- then
      refine CW.ret ⟨_, rfl, ?_⟩
      rcases hR4 with ⟨hb, _⟩ | ⟨_, h, _⟩
      · simp_all
      · exact ⟨.inr h, trivial⟩
    -- else
    refine CW.skip ?_
    refine hK5 _ _ ?_; try clear hK5 K5
    refine CW.region ?_   -- region 4
    refine WL.val (Y.add rfl rfl ⟨by omega, by omega⟩) (by decide) ?_   -- t23 := binOp add 3 t8 c(1:i64) 3
    refine WL.val (Y.move rfl) (by decide) ?_   -- t8 := move t23
    refine WL.nil ?_
    rcases hR4 with ⟨_, hj2, hc⟩ | ⟨hb, _⟩
    · have hz4 := hc.size
      exact ⟨x + 1, (by show m - (x + 1) < m - x; omega), (by repeat (first | exact Fr.le.nil | refine Fr.le.cons rfl ?_)), (by show x + 1 ≤ m; omega), hj2, (hO.ext hE).chg hc (fun k hk h => h ⟨hf1 k hk, hlt1 k hk⟩), by omega⟩
    · simp_all
  -- else
  refine CW.exit ?_   -- exit 0
  refine ⟨_, rfl, ?_⟩
  refine ⟨.inl ⟨⟨w.heap.size, w1.heap.size⟩, ?_⟩, trivial⟩
  have e : (allXs8 (Fw.els ns) ⟨w.heap.size, w1.heap.size⟩).length = x := by simp only [allXs8, List.length_map]; omega
  rw [e]
  exact hj
theorem in_any (u : Value) (l : List RefD) (r : RefD) (w : World) (hl : Sl w refC 34 u l) : Calls Try.prog 22 #[u, refV r] w (Ret fun v w' => v = .int .i64 (inI l r) ∧ Ext w w') := by
  obtain ⟨A, m, c, rfl, hm, hmc, hcm, _⟩ := _root_.id hl
  unfold maxLen at hcm
  refine calls_of_CW 19 [4] [(0, .slice A m c), (1, refV r)] Try.func22 rfl rfl rfl (by simp) args2 ?_
  have hE : Ext w w := Chg.refl
  refine CW.seq fun K1 hK1 => ?_
  refine CW.region ?_   -- region 0
  refine WL.box rfl rfl (by decide) fun g3 w1 hx1 hg3 hB3 => ?_   -- t3 := box 49 t1
  have hlt3 := hB3.lt; have hz1 := hx1.size
  have hM3 := hB3.mem; have hz1 := hx1.size; have hE := hE.thenExt hx1
  refine WL.val (Y.assign rfl) (by decide) ?_   -- t4 := assign c(0:i64)
  refine WL.nil ?_
  refine hK1 _ _ ?_; try clear hK1 K1
  refine CW.seq fun K2 hK2 => ?_
  refine CW.seq fun K3 hK3 => ?_
  refine CW.region ?_   -- region 1
  refine WL.val (Y.assign rfl) (by decide) ?_   -- t5 := assign c(0:i64)
  refine WL.nil ?_
  refine hK3 _ _ ?_; try clear hK3 K3
  refine CW.block ?_   -- block 0
  refine CW.loop (X := Nat) (fun x => [(0, .slice A m c), (3, .pointer (some ⟨g3, 0, none⟩)), (5, .int .i64 (x : Int))]) (fun x w0 => x ≤ m ∧ (∀ (t : Nat) (p : RefD), t < x → l[t]? = some p → p ≠ r) ∧ Ext w1 w0) (fun x => m - x) 0 (by repeat (first | exact Fr.le.nil | refine Fr.le.cons rfl ?_)) ⟨Nat.zero_le _, (fun t p h => by omega), Chg.refl⟩ ?_
  intro x w2 hl2
  obtain ⟨hxm, hno, hL⟩ := hl2
  have hE := hE.thenExt hL
  have hB3 := hB3.ext hL
  refine CW.seq fun K4 hK4 => ?_
  refine CW.seq fun K5 hK5 => ?_
  refine CW.region ?_   -- region 2
  refine WL.val (Y.move rfl) (by decide) ?_   -- t6 := move t5
  refine WL.val (Y.move rfl) (by decide) ?_   -- t7 := move t0
  refine WL.val (Y.len_slice Try.underlying57 rfl) (by decide) ?_   -- t8 := call len(t7) : 57
  refine WL.val (Y.lss rfl rfl) (by decide) ?_   -- t9 := binOp lss 3 t6 t8 3
  refine WL.nil ?_
  refine hK5 _ _ ?_; try clear hK5 K5
  first | refine CW.condD rfl (fun ht6 => ?_) (fun ht6 => ?_) | refine CW.condND rfl (fun ht6 => ?_) (fun ht6 => ?_) | refine CW.condN rfl (fun ht6 => ?_) (fun ht6 => ?_) | refine CW.cond rfl (fun ht6 => ?_) (fun ht6 => ?_)
  · -- then
    refine CW.skip ?_
    refine hK4 _ _ ?_; try clear hK4 K4
    refine CW.seq fun K7 hK7 => ?_
    refine CW.block ?_   -- block 1
    refine CW.seq fun K8 hK8 => ?_
    obtain ⟨y, hy⟩ : ∃ y, l[x]? = some y := ⟨_, List.getElem?_eq_getElem (by omega)⟩
    obtain ⟨a, rfl, hmy⟩ := hl.get hy
    refine CW.quiet (fun wq => Ext w2 wq) (by kernel_rfl) (by kernel_rfl) Chg.drew ?_
    refine QL.val (fun wq hq => Y.move rfl) (by decide) ?_   -- t12 := move t0
    refine QL.val (fun wq hq => Y.move rfl) (by decide) ?_   -- t13 := move t5
    refine QL.val (fun wq hq => Y.indexAddrN Try.underlying57 rfl rfl sz0_apiRef (by omega)) (by decide) ?_   -- t14 := indexAddr 57 t12 t13
    refine QL.val (fun wq hq => Y.load Try.underlying49 rfl ((hmy.ext hE).ext hq) (sz_apiRef _) rfl) (by decide) ?_   -- t15 := load 49 t14
    refine QL.val (fun wq hq => Y.load Try.underlying49 rfl (hB3.ext hq).mem (sz_apiRef _) rfl) (by decide) ?_   -- t16 := load 49 t3
    refine QL.val (fun wq hq => Y.eql_apiRef rfl rfl) (by decide) ?_   -- t17 := binOp eql 49 t15 t16 49
    refine QL.nil fun w3 hx3 => ?_
    have hz3 := hx3.size
    have hE := hE.thenExt hx3
    have hB3 := hB3.ext hx3
    refine hK8 _ _ ?_; try clear hK8 K8
    first | refine CW.condD rfl (fun ht9 => ?_) (fun ht9 => ?_) | refine CW.condND rfl (fun ht9 => ?_) (fun ht9 => ?_) | refine CW.condN rfl (fun ht9 => ?_) (fun ht9 => ?_) | refine CW.cond rfl (fun ht9 => ?_) (fun ht9 => ?_)
    · -- then
      refine CW.seq fun K10 hK10 => ?_
      refine CW.region ?_   -- region 5
      refine WL.val (Y.move rfl) (by decide) ?_   -- t18 := move t5
      refine WL.val (Y.assign rfl) (by decide) ?_   -- t4 := assign t18
      refine WL.nil ?_
      refine hK10 _ _ ?_; try clear hK10 K10
      refine CW.ret ⟨_, rfl, ?_⟩
      exact ⟨by rw [inI_some hy (by assumption) hno], hE⟩
    -- else
    refine CW.skip ?_
    refine hK7 _ _ ?_; try clear hK7 K7
    refine CW.region ?_   -- region 3
    refine WL.val (Y.move rfl) (by decide) ?_   -- t10 := move t5
    refine WL.val (Y.add rfl rfl ⟨by omega, by omega⟩) (by decide) ?_   -- t11 := binOp add 3 t10 c(1:i64) 3
    refine WL.val (Y.assign rfl) (by decide) ?_   -- t5 := assign t11
    refine WL.nil ?_
    exact ⟨x + 1, (by show m - (x + 1) < m - x; omega), (by repeat (first | exact Fr.le.nil | refine Fr.le.cons rfl ?_)), (by show x + 1 ≤ m; omega), (fun t p ht hp => by
      by_cases e : t = x
      · subst e; rw [hy] at hp; cases hp; assumption
      · exact hno t p (by omega) hp), hL.thenExt hx3⟩
  -- else
  refine CW.exit ?_   -- exit 0
  refine hK2 _ _ ?_; try clear hK2 K2
  refine CW.seq fun K11 hK11 => ?_
  refine CW.region ?_   -- region 6
  refine WL.val (Y.assign rfl) (by decide) ?_   -- t4 := assign c(-1:i64)
  refine WL.nil ?_
  refine hK11 _ _ ?_; try clear hK11 K11
  refine CW.ret ⟨_, rfl, ?_⟩
  exact ⟨by rw [inI_none (fun t p ht hp => hno t p (by omega) hp)], hE⟩
set_option maxRecDepth 100000 in
set_option maxHeartbeats 2000000 in
theorem walked_any (g rb ra : Nat) (ad : List Dig) (ns : List Nn) (w : World) (hT : FtAt w g rb ra ad ns) (hG : Fu.Good (Fw.els ns)) (hn : ns.length ≤ 400001) : Calls Try.prog 21 #[.pointer (some ⟨g, 0, none⟩)] w (Ret fun v w' => ∃ lv, v = .tuple #[lv, .string (bs (textE (Fw.els ns)))] ∧ Own w' 49 34 lv (((seenE (Fw.els ns)).map fun q => refC (nm (Fw.els ns) q)).flatten) ∧ (∀ k, lv.ownBlock = some k → w.heap.size ≤ k) ∧ Ext w w') := by
  have hlv : (seenE (Fw.els ns)).length ≤ 400001 := by
    have h1 := List.countP_le_length (p := fun x : El => !x.gone) (l := Fw.els ns)
    rw [hG.seen_length]; rw [List.length_map] at h1; exact Nat.le_trans h1 hn
  obtain ⟨er, her⟩ : ∃ er : Nat → List Value, er = fun q => refC (nm (Fw.els ns) q) := ⟨_, rfl⟩
  have herl : ∀ q, (er q).length = 34 := fun q => by rw [her]; exact refC_length _
  refine calls_of_CN 26 [2, 3] [(0, .pointer (some ⟨g, 0, none⟩))] Try.func21 rfl rfl rfl (by simp) args1 ?_
  have hE : Ext w w := Chg.refl
  refine CN.seq fun K1 hK1 => ?_
  refine CN.of_CW ?_
  refine CW.region ?_   -- region 0
  refine WL.val (Y.assign rfl) (by first | decide | exact Nat.le_of_ble_eq_true rfl) ?_   -- t2 := assign c(nilslice)
  refine WL.val (Y.assign rfl) (by first | decide | exact Nat.le_of_ble_eq_true rfl) ?_   -- t3 := assign c(STR)
  refine WL.nil ?_
  refine hK1 _ _ _ ?_; try clear hK1 K1
  refine CN.seq fun K2 hK2 => ?_
  refine CN.of_CW ?_
  refine CW.region ?_   -- region 1
  refine WL.alloc1 (z := .slice none 0 0) (by kernel_rfl) rfl (by first | decide | exact Nat.le_of_ble_eq_true rfl) fun g4 w1 hx1 hg4 hB4 => ?_   -- t4 := alloc 57
  have hlt4 := hB4.lt; have hz1 := hx1.size
  have hM4 := hB4.mem; have hz1 := hx1.size; have hE := hE.thenExt hx1
  refine WL.nil ?_
  refine hK2 _ _ _ ?_; try clear hK2 K2
  refine CN.seq fun K3 hK3 => ?_
  refine CN.of_CW ?_
  refine CW.region ?_   -- region 2
  refine WL.alloc1 (z := .slice none 0 0) (by kernel_rfl) rfl (by first | decide | exact Nat.le_of_ble_eq_true rfl) fun g5 w2 hx2 hg5 hB5 => ?_   -- t5 := alloc 92
  have hlt5 := hB5.lt; have hz2 := hx2.size
  have hM5 := hB5.mem; have hz2 := hx2.size; have hE := hE.thenExt hx2; have hB4 := hB4.ext hx2
  refine WL.nil ?_
  refine hK3 _ _ _ ?_; try clear hK3 K3
  refine CN.seq fun K4 hK4 => ?_
  refine CN.seq fun K5 hK5 => ?_
  refine CN.of_CW ?_
  refine CW.region ?_   -- region 3
  refine WL.val (Y.move rfl) (by first | decide | exact Nat.le_of_ble_eq_true rfl) ?_   -- t8 := move t0
  refine WL.call Try.func20 rfl rfl rfl (fall_any ⟨g, 0, none⟩ _) (by simp) ?_; rintro v9 w3 hR3   -- t9 := call F20(t8) : 27
  obtain ⟨b, rfl, hgb, hBb, hx3⟩ := hR3
  have hz3 := hx3.size
  have hE := hE.thenExt hx3
  have hB4 := hB4.ext hx3
  have hB5 := hB5.ext hx3
  have hT3 := hT.ext hE
  have hTl := fun q (hq : Fp g rb ra ns q) => hT.lt hq
  have hE3 := hE
  refine WL.nil ?_
  refine hK5 _ _ _ ?_; try clear hK5 K5
  refine CN.block ?_   -- block 0
  refine CN.rangeN (rfl) Try.func43 rfl rfl (fall1_any g rb ra ad ns b _ hT3 hG hn hBb) (fun _ => rfl) (by first | decide | exact Nat.le_of_ble_eq_true rfl) (fun _ h => h.elim) (fun w1 s V hz hs i hk => by have := hs.1; have := hk.1; omega) (fun s i V => w3.heap.size + 2 ≤ s.lo ∧ s.lo ≤ s.hi ∧ s.hi ≤ V.heap.size ∧ ∃ u bv, Blk V g4 57 [u] ∧ Blk V g5 92 [bv] ∧ Own V 49 34 u ((((seenE (Fw.els ns)).take i).map er).flatten) ∧ Own V 5 1 bv (bytesC (((seenE (Fw.els ns)).take i).map (byteAt (Fw.els ns)))) ∧ (∀ q, u.ownBlock = some q → s.hi ≤ q) ∧ (∀ q, bv.ownBlock = some q → s.hi ≤ q) ∧ FtAt V g rb ra ad ns ∧ Ext w V) (fun _ e V => e = .exit 0 ∧ False) ?_ ?_ ?_ ?_ ?_ ?_ ?_
  · intro w1_ s_ V hw_ hz_ hc_ hs_
    exact ⟨by have := hs_.1; omega, hs_.2.1, hs_.2.2, .slice none 0 0, .slice none 0 0, (hB4.ext hw_).ext hc_, (hB5.ext hw_).ext hc_, Own.nil, Own.nil, (fun q h => by simp [Value.ownBlock] at h), (fun q h => by simp [Value.ownBlock] at h), (hT3.ext hw_).ext hc_, (hE.thenExt hw_).thenExt hc_⟩
  · intro s_ i_ V V_ hi_ hc_
    obtain ⟨hlo, hlh, hhi, u, bv, hB4, hB5, hO, hOb, hf, hfb, hT, hE⟩ := hi_
    have hzc := hc_.size
    exact ⟨hlo, hlh, by omega, u, bv, hB4.chg hc_ (fun h => by rcases h with h | h; exact h; omega), hB5.chg hc_ (fun h => by rcases h with h | h; exact h; omega), hO.chg hc_ (fun q hq h => by rcases h with h | h; exact h; have := hf q hq; omega), hOb.chg hc_ (fun q hq h => by rcases h with h | h; exact h; have := hfb q hq; omega), hf, hfb, hT.chg hc_ (fun q hq h => by rcases h with h | h; exact h; have := hTl q hq; omega), hE.step hc_ (fun k h => by rcases h with h | h; exact h.elim; omega)⟩
  · intro s_ e_ V V_ hi_ hc_
    exact hi_.2.elim
  · intro s_ i_ V hi_
    obtain ⟨_, _, _, _, _, _, _, _, _, _, _, hT, _⟩ := hi_
    exact hT.allN hG
  · intro s_ i_ x_ w4 hi_ hx_ hat_ hz_
    obtain ⟨hlo, hlh, hhi, u, bv, hB4, hB5, hO, hOb, hf, hfb, hT, hE⟩ := hi_
    obtain ⟨q, hq, rfl⟩ : ∃ q, (seenE (Fw.els ns))[i_]? = some q ∧ (nm (Fw.els ns) q, byteAt (Fw.els ns) q) = x_ := by
      rw [allXs8, List.getElem?_map] at hx_
      exact Option.map_eq_some_iff.1 hx_
    have hil := (List.getElem?_eq_some_iff.1 hq).1
    have hil2 : ((seenE (Fw.els ns)).take i_).length = i_ := by rw [List.length_take]; omega
    have hult := hO.lt
    have hblt := hOb.lt
    obtain ⟨uA, um, uc, rfl⟩ := hO.lens
    have hum : um = i_ := by
      have h1 := (hO.mem uA um uc rfl).2.2.1
      rw [flat_length herl, hil2] at h1
      omega
    subst hum
    obtain ⟨bA, bm, bcp, rfl⟩ := hOb.lens
    refine CW.seq fun K6 hK6 => ?_
    refine CW.region ?_   -- region 4
    refine as_apiRef rfl (by simp) (by first | decide | exact Nat.le_of_ble_eq_true rfl) fun g6 w5 hx5 hg6 hB6 => ?_   -- alloc 49; store 49 t6 t10
    have hlt6 := hB6.lt; have hz5 := hx5.size
    have hM6 := hB6.mem; have hz5 := hx5.size; have hE := hE.thenExt hx5; have hB4 := hB4.ext hx5; have hB5 := hB5.ext hx5
    refine WL.nil ?_
    refine hK6 _ _ ?_; try clear hK6 K6
    refine CW.region ?_   -- region 5
    refine WL.val (Y.assign rfl) (by first | decide | exact Nat.le_of_ble_eq_true rfl) ?_   -- t7 := assign t11
    refine WL.nil ?_
    have hE_ : Ext w4 w5 := hx5
    refine ⟨hE_, fun w6 hc_ => ?_⟩
    have hz6 := hc_.size
    have hB4 := hB4.chg hc_ (fun h => by omega)
    have hB5 := hB5.chg hc_ (fun h => by omega)
    have hB6 := hB6.chg hc_ (fun h => by omega)
    have hE := hE.step hc_ (fun k h => by omega)
    have hO := (hO.ext hx5).chg hc_ (fun k hk h => by have := hf k hk; omega)
    have hOb := (hOb.ext hx5).chg hc_ (fun k hk h => by have := hfb k hk; omega)
    have hT := (hT.ext hx5).chg hc_ (fun k hk h => by have := hTl k hk; omega)
    refine CW.block ?_   -- block 1
    refine CW.seq fun K7 hK7 => ?_
    refine CW.seq fun K8 hK8 => ?_
    refine CW.region ?_   -- region 6
    refine WL.val (Y.load1 Try.underlying57 rfl hB4.mem.cell0 rfl) (by first | decide | exact Nat.le_of_ble_eq_true rfl) ?_   -- t12 := load 57 t4
    refine WL.val (Y.len_slice Try.underlying57 rfl) (by first | decide | exact Nat.le_of_ble_eq_true rfl) ?_   -- t13 := call len(t12) : 57
    refine WL.val (Y.gtr rfl rfl) (by first | decide | exact Nat.le_of_ble_eq_true rfl) ?_   -- t14 := binOp gtr 3 t13 c(400000:i64) 3
    refine WL.nil ?_
    refine hK8 _ _ ?_; try clear hK8 K8
    first | refine CW.condD rfl (fun ht9 => ?_) (fun ht9 => ?_) | refine CW.condND rfl (fun ht9 => ?_) (fun ht9 => ?_) | refine CW.condN rfl (fun ht9 => ?_) (fun ht9 => ?_) | refine CW.cond rfl (fun ht9 => ?_) (fun ht9 => ?_)
    · -- then
      refine CW.exit ?_   -- exit 0
      exfalso; omega
    -- else
    refine CW.skip ?_
    refine hK7 _ _ ?_; try clear hK7 K7
    refine CW.seq fun K10 hK10 => ?_
    refine CW.region ?_   -- region 7
    refine WL.val (Y.load1 Try.underlying57 rfl hB4.mem.cell0 rfl) (by first | decide | exact Nat.le_of_ble_eq_true rfl) ?_   -- t15 := load 57 t4
    refine WL.val (Y.load Try.underlying49 rfl hB6.mem (sz_apiRef _) rfl) (by first | decide | exact Nat.le_of_ble_eq_true rfl) ?_   -- t16 := load 49 t6
    refine WL.st (St.buildSlice rfl (bs1_ref _)) (by first | decide | exact Nat.le_of_ble_eq_true rfl) fun v17 w7 hR7 => ?_   -- t17 := buildSlice 57 1 [(0,t16)]
    obtain ⟨g17, rfl, hg17, hB17, hx7⟩ := hR7
    have hz7 := hx7.size
    have hE := hE.thenExt hx7
    have hB4 := hB4.ext hx7
    have hB5 := hB5.ext hx7
    refine WL.st (St.append (m := 1) (news := refC (nm (Fw.els ns) q)) Try.underlying57 Try.underlying57 ai_ref rfl rfl (hO.ext hx7) (Fw.Src.one hB17 (refC_length _)) one_refC (by rw [flat_length herl, hil2]; omega)) (by first | decide | exact Nat.le_of_ble_eq_true rfl) fun v18 w8 hR8 => ?_   -- t18 := call append(t15, t17) : 57,57
    obtain ⟨hO8, hc8, hf8⟩ := hR8
    have hz8 := hc8.size
    obtain ⟨vA, vm, vc, rfl⟩ := hO8.lens
    have hf8 : ∀ k, (Value.slice vA vm vc).ownBlock = some k → s_.hi ≤ k := fun k hk => by
      rcases hf8 with h | h
      · rw [h] at hk; exact hf k hk
      · have := h k hk; omega
    have hO8 : Own w8 49 34 (.slice vA vm vc) ((((seenE (Fw.els ns)).take (um + 1)).map er).flatten) := by
      rw [Go.Pl.take_succ hq, List.map_append, List.flatten_append]
      simpa [her] using hO8
    have hL8 : Chg (fun k => k = g4 ∨ k = g5 ∨ s_.hi ≤ k) w6 w8 := (Ext.chg hx7).trans hc8 (fun k _ h => .inr (.inr (hf k h)))
    have hE := hE.step hc8 (fun k h => by have := hf k h; omega)
    have hB4 := hB4.chg hc8 (fun h => by have := hf _ h; omega)
    have hB5 := hB5.chg hc8 (fun h => by have := hf _ h; omega)
    have hB6 := (hB6.ext hx7).chg hc8 (fun h => by have := hult _ h; omega)
    have hOb := (hOb.ext hx7).chg hc8 (fun k hk h => by
      obtain ⟨_, _, h1⟩ := (hOb.ext hx7).kind hk
      obtain ⟨_, _, h2⟩ := (hO.ext hx7).kind h
      rw [h1] at h2; injection h2 with h2; injection h2 with _ h2; exact absurd h2 (by decide))
    have hT := (hT.ext hx7).chg hc8 (fun k hk h => by have h1 := hTl k hk; have h2 := hf k h; omega)
    refine WL.store (g := g4) (pre := []) (old := [.slice uA um uc]) (post := []) (new := [.slice vA vm vc]) rfl rfl rfl rfl (by kernel_rfl) (by simpa using hB4) (by first | rfl | (simp [digC_length, opC_length]; done) | (simp only [digC_length, opC_length]; omega)) (one1 rfl) (fun w9 hc9 hB9_ => ?_)   -- _ := store 57 t4 t18
    have hz9 := hc9.size; have hE := hE.step hc9 (fun k h => by omega); have hB5 := hB5.chg hc9 (fun h => by omega); have hB6 := hB6.chg hc9 (fun h => by omega)
    have hB4 : Blk w9 g4 57 [.slice vA vm vc] := by simpa using hB9_
    have hO9 := hO8.chg hc9 (fun k hk h => by have := hf8 k hk; omega)
    have hOb := hOb.chg hc9 (fun k hk h => by have := hfb k hk; omega)
    have hT := hT.chg hc9 (fun k hk h => by have := hTl k hk; omega)
    have hL9 : Chg (fun k => k = g4 ∨ k = g5 ∨ s_.hi ≤ k) w6 w9 := hL8.trans hc9 (fun k _ h => .inl h)
    refine WL.nil ?_
    refine hK10 _ _ ?_; try clear hK10 K10
    refine CW.region ?_   -- region 8
    refine WL.val (Y.load1 Try.underlying92 rfl hB5.mem.cell0 rfl) (by first | decide | exact Nat.le_of_ble_eq_true rfl) ?_   -- t19 := load 92 t5
    refine WL.val (Y.move rfl) (by first | decide | exact Nat.le_of_ble_eq_true rfl) ?_   -- t20 := move t7
    refine WL.st (St.buildSlice rfl (bs1 _)) (by first | decide | exact Nat.le_of_ble_eq_true rfl) fun v21 w10 hR10 => ?_   -- t21 := buildSlice 92 1 [(0,t20)]
    obtain ⟨g21, rfl, hg21, hB21, hx10⟩ := hR10
    have hz10 := hx10.size
    have hE := hE.thenExt hx10
    have hB4 := hB4.ext hx10
    have hB5 := hB5.ext hx10
    have hB6 := hB6.ext hx10
    refine WL.st (St.app (ys := [byteAt (Fw.els ns) q]) Try.underlying92 Try.underlying92 ai_u8 rfl rfl (hOb.ext hx10) (Blk.src1 hB21) (by rw [List.length_map, hil2]; omega)) (by first | decide | exact Nat.le_of_ble_eq_true rfl) fun v22 w11 hR11 => ?_   -- t22 := call append(t19, t21) : 92,92
    obtain ⟨hO11, hc11, hf11⟩ := hR11
    have hz11 := hc11.size
    obtain ⟨cA, cm, cc, rfl⟩ := hO11.lens
    have hf11 : ∀ k, (Value.slice cA cm cc).ownBlock = some k → s_.hi ≤ k := fun k hk => by
      rcases hf11 with h | h
      · rw [h] at hk; exact hfb k hk
      · have := h k hk; omega
    have hO11 : Own w11 5 1 (.slice cA cm cc) (bytesC (((seenE (Fw.els ns)).take (um + 1)).map (byteAt (Fw.els ns)))) := by
      rw [Go.Pl.take_succ hq, List.map_append]
      simpa using hO11
    have hL11 : Chg (fun k => k = g4 ∨ k = g5 ∨ s_.hi ≤ k) w6 w11 := (hL9.thenExt hx10).trans hc11 (fun k _ h => .inr (.inr (hfb k h)))
    have hE := hE.step hc11 (fun k h => by have := hfb k h; omega)
    have hB4 := hB4.chg hc11 (fun h => by have := hfb _ h; omega)
    have hB5 := hB5.chg hc11 (fun h => by have := hfb _ h; omega)
    have hB6 := hB6.chg hc11 (fun h => by have := hblt _ h; omega)
    have hO9 := (hO9.ext hx10).chg hc11 (fun k hk h => by
      obtain ⟨_, _, h1⟩ := (hO9.ext hx10).kind hk
      obtain ⟨_, _, h2⟩ := (hOb.ext hx10).kind h
      rw [h1] at h2; injection h2 with h2; injection h2 with _ h2; exact absurd h2 (by decide))
    have hT := (hT.ext hx10).chg hc11 (fun k hk h => by have h1 := hTl k hk; have h2 := hfb k h; omega)
    refine WL.store (g := g5) (pre := []) (old := [.slice bA bm bcp]) (post := []) (new := [.slice cA cm cc]) rfl rfl rfl rfl (by kernel_rfl) (by simpa using hB5) (by first | rfl | (simp [digC_length, opC_length]; done) | (simp only [digC_length, opC_length]; omega)) (one1 rfl) (fun w12 hc12 hB12_ => ?_)   -- _ := store 92 t5 t22
    have hz12 := hc12.size; have hE := hE.step hc12 (fun k h => by omega); have hB4 := hB4.chg hc12 (fun h => by omega); have hB6 := hB6.chg hc12 (fun h => by omega)
    have hB5 : Blk w12 g5 92 [.slice cA cm cc] := by simpa using hB12_
    have hO9 := hO9.chg hc12 (fun k hk h => by have := hf8 k hk; omega)
    have hO11 := hO11.chg hc12 (fun k hk h => by have := hf11 k hk; omega)
    have hT := hT.chg hc12 (fun k hk h => by have := hTl k hk; omega)
    have hL12 : Chg (fun k => k = g4 ∨ k = g5 ∨ s_.hi ≤ k) w6 w12 := hL11.trans hc12 (fun k _ h => .inr (.inl h))
    refine WL.nil ?_
    exact ⟨⟨hlo, hlh, by omega, _, _, hB4, hB5, hO9, hO11, hf8, hf11, hT, hE⟩, hL12.mono fun k _ h => ⟨fun hk => by have h1 := hk.1; have h2 := hk.2; omega, by omega, by omega⟩⟩
  · intro s_ w13 hi_ hD_ hfin_
    obtain ⟨hlo, hlh, hhi, u, bv, hB4, hB5, hO, hOb, hf, hfb, hT, hE⟩ := hi_
    have hxl : (allXs8 (Fw.els ns) s_).length = (seenE (Fw.els ns)).length := by simp only [allXs8, List.length_map]
    rw [hxl, List.take_of_length_le (Nat.le_refl _)] at hO hOb
    obtain ⟨uA, um, uc, rfl⟩ := hO.lens
    obtain ⟨bA, bm, bcp, rfl⟩ := hOb.lens
    obtain ⟨hm1, hm2, hm3, _⟩ := hOb.mem bA bm bcp rfl
    rw [bytesC_length, Nat.mul_one] at hm3
    refine hK4 _ _ _ ?_; try clear hK4 K4
    refine CN.seq fun K11 hK11 => ?_
    refine CN.of_CW ?_
    refine CW.quiet (fun wq => Ext w13 wq) (by kernel_rfl) (by kernel_rfl) Chg.drew ?_
    refine QL.val (fun wq hq => Y.load1 Try.underlying57 rfl (hB4.ext hq).mem.cell0 rfl) (by first | decide | exact Nat.le_of_ble_eq_true rfl) ?_   -- t23 := load 57 t4
    refine QL.val (fun wq hq => Y.load1 Try.underlying92 rfl (hB5.ext hq).mem.cell0 rfl) (by first | decide | exact Nat.le_of_ble_eq_true rfl) ?_   -- t24 := load 92 t5
    refine QL.val (fun wq hq => Y.bytes_string Try.underlying92 Try.underlying5 Try.underlying9 rfl (l := textE (Fw.els ns)) hm3 (fun h => by obtain ⟨a, ha, hm⟩ := hm1 h; exact ⟨a, ha, hm.ext hq⟩) hm2) (by first | decide | exact Nat.le_of_ble_eq_true rfl) ?_   -- t25 := convert 92 9 t24
    refine QL.val (fun wq hq => Y.assign rfl) (by first | decide | exact Nat.le_of_ble_eq_true rfl) ?_   -- t2 := assign t23
    refine QL.val (fun wq hq => Y.assign rfl) (by first | decide | exact Nat.le_of_ble_eq_true rfl) ?_   -- t3 := assign t25
    refine QL.nil fun w14 hx14 => ?_
    have hz14 := hx14.size
    have hE := hE.thenExt hx14
    have hB4 := hB4.ext hx14
    have hB5 := hB5.ext hx14
    refine hK11 _ _ _ ?_; try clear hK11 K11
    refine CN.ret ?_
    exact ⟨[w3.heap.size], rfl, by simp, (fun D hD => by simp at hD; subst hD; exact def_chg hD_ hx14 (fun h => h)), _, rfl, fun w_ hc => ⟨_, rfl, (by rw [her] at hO; exact (hO.ext hx14).chg hc (fun k hk h => by simp at h; have := hf k hk; omega)), (fun k hk => by have := hf k hk; omega), hE.step hc (fun k h => by simp at h; omega)⟩⟩
  · intro s_ e_ w15 hi_ hD_ hfin_ he_
    exact hi_.2.elim

end Go.Proofs.Ytffkmlkdlhkkmaa
