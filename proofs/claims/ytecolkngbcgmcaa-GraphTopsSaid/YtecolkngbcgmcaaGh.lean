/- Closures over a look's marks; slices.IndexFunc, ContainsFunc at digests, walked. No condition. -/
import Derived.Test.YtecolkngbcgmcaaGg
set_option linter.unusedSimpArgs false
set_option linter.unusedVariables false
namespace Go.Pl
open Go.Fw
def bitAt (S : List Bool) (l : List Nd) (d : Dig) : Bool := S[ixN l d]?.getD false
end Go.Pl
namespace Go.Proofs.Ytecolkngbcgmcaa
open Go.RowKit Go.Fw Go.Pl

theorem gwithin1_any (wb w : World) (gk r sb b bi bk : Nat) (u : Value) (l : List NdV) (S0 In : List Bool) (d : Dig) (hK : LookAt wb w gk r sb u l S0) (hIn : Blk w b TBo (boolC In)) (hil : In.length = l.length) (hB1 : Blk w bi TSb [.slice (some ⟨b, 0, none⟩) l.length l.length]) (hB2 : Blk w bk TPk [.pointer (some ⟨gk, 0, none⟩)]) (hd : d ∈ idsL (ndsL l)) : Calls Try.prog 47 #[digV d, .pointer (some ⟨bi, 0, none⟩), .pointer (some ⟨bk, 0, none⟩)] w (Ret fun v w' => v = .bool (!bitAt In (ndsL l) d) ∧ Ext w w') := by
  have hnl : (ndsL l).length = l.length := by simp
  have hix := ixN_lt hd
  rw [hnl] at hix
  obtain ⟨jf, hf⟩ := placed_ix hd
  obtain ⟨cb, hcb⟩ : ∃ cb, In[ixN (ndsL l) d]? = some cb := ⟨_, List.getElem?_eq_getElem (by omega)⟩
  have hbit : bitAt In (ndsL l) d = cb := by rw [bitAt, hcb]; rfl
  refine calls_of_CW 15 [4] [(0, digV d), (1, .pointer (some ⟨bi, 0, none⟩)), (2, .pointer (some ⟨bk, 0, none⟩))] Try.func47 rfl rfl rfl (by simp) args3 ?_
  have hE : Ext w w := Chg.refl
  refine CW.seq fun K1 hK1 => ?_
  refine CW.region ?_   -- region 0
  refine WL.box rfl rfl (by decide) fun g3 w1 hx1 hg3 hB3 => ?_   -- t3 := box 45 t0
  have hlt3 := hB3.lt; have hz1 := hx1.size
  have hM3 := hB3.mem; have hz1 := hx1.size; have hE := hE.thenExt hx1; have hK := hK.ext hx1; have hIn := hIn.ext hx1; have hB1 := hB1.ext hx1; have hB2 := hB2.ext hx1
  refine WL.val (Y.assign rfl) (by decide) ?_   -- t4 := assign c(false)
  refine WL.nil ?_
  refine hK1 _ _ ?_; try clear hK1 K1
  refine CW.seq fun K2 hK2 => ?_
  refine CW.quiet (fun wq => Ext w1 wq) (by kernel_rfl) (by kernel_rfl) Chg.drew ?_
  refine QL.val (fun wq hq => Y.load1 Try.underlying58 rfl (hB1.ext hq).mem.cell0 rfl) (by decide) ?_   -- t5 := load 58 t1
  refine QL.val (fun wq hq => Y.load1 Try.underlying55 rfl (hB2.ext hq).mem.cell0 rfl) (by decide) ?_   -- t6 := load 55 t2
  refine QL.val (fun wq hq => Y.nilCheck rfl) (by decide) ?_   -- t7 := nilCheck t6
  refine QL.val (fun wq hq => Y.fieldAddr fo_graphlook1 rfl) (by decide) ?_   -- t8 := fieldAddr 61 t7 1
  refine QL.val (fun wq hq => Y.load1 Try.underlying59 rfl (hK.ext hq).blk.mem.graphlook1 rfl) (by decide) ?_   -- t9 := load 59 t8
  refine QL.val (fun wq hq => Y.load Try.underlying45 rfl (hB3.ext hq).mem (sz_apiDigest _) rfl) (by decide) ?_   -- t10 := load 45 t3
  refine QL.val (fun wq hq => Y.lookupAt keyDig (fun _ => rfl) Try.underlying59 rfl rfl (hK.ext hq).map hf rfl) (by decide) ?_   -- t11 := lookup 59 t9 t10 false
  refine QL.val (fun wq hq => Y.indexAddrN Try.underlying58 rfl rfl sz0_bool (by omega)) (by decide) ?_   -- t12 := indexAddr 58 t5 t11
  refine QL.val (fun wq hq => Y.load1 Try.underlying4 rfl ((hIn.ext hq).bcell hcb) rfl) (by decide) ?_   -- t13 := load 4 t12
  refine QL.val (fun wq hq => Y.not rfl) (by decide) ?_   -- t14 := unOp not 4 t13
  refine QL.val (fun wq hq => Y.assign rfl) (by decide) ?_   -- t4 := assign t14
  refine QL.nil fun w2 hx2 => ?_
  have hz2 := hx2.size
  have hE := hE.thenExt hx2
  have hK := hK.ext hx2
  have hIn := hIn.ext hx2
  have hB1 := hB1.ext hx2
  have hB2 := hB2.ext hx2
  have hB3 := hB3.ext hx2
  refine hK2 _ _ ?_; try clear hK2 K2
  refine CW.ret ⟨_, rfl, ?_⟩
  exact ⟨by rw [hbit], hE⟩
theorem gorder1_any (wb w : World) (gk r sb b bi bk : Nat) (u : Value) (l : List NdV) (S0 In : List Bool) (d : Dig) (hK : LookAt wb w gk r sb u l S0) (hIn : Blk w b TBo (boolC In)) (hil : In.length = l.length) (hB1 : Blk w bi TSb [.slice (some ⟨b, 0, none⟩) l.length l.length]) (hB2 : Blk w bk TPk [.pointer (some ⟨gk, 0, none⟩)]) (hd : d ∈ idsL (ndsL l)) : Calls Try.prog 54 #[digV d, .pointer (some ⟨bi, 0, none⟩), .pointer (some ⟨bk, 0, none⟩)] w (Ret fun v w' => v = .bool (!bitAt In (ndsL l) d) ∧ Ext w w') := by
  have hnl : (ndsL l).length = l.length := by simp
  have hix := ixN_lt hd
  rw [hnl] at hix
  obtain ⟨jf, hf⟩ := placed_ix hd
  obtain ⟨cb, hcb⟩ : ∃ cb, In[ixN (ndsL l) d]? = some cb := ⟨_, List.getElem?_eq_getElem (by omega)⟩
  have hbit : bitAt In (ndsL l) d = cb := by rw [bitAt, hcb]; rfl
  refine calls_of_CW 15 [4] [(0, digV d), (1, .pointer (some ⟨bi, 0, none⟩)), (2, .pointer (some ⟨bk, 0, none⟩))] Try.func54 rfl rfl rfl (by simp) args3 ?_
  have hE : Ext w w := Chg.refl
  refine CW.seq fun K1 hK1 => ?_
  refine CW.region ?_   -- region 0
  refine WL.box rfl rfl (by decide) fun g3 w1 hx1 hg3 hB3 => ?_   -- t3 := box 45 t0
  have hlt3 := hB3.lt; have hz1 := hx1.size
  have hM3 := hB3.mem; have hz1 := hx1.size; have hE := hE.thenExt hx1; have hK := hK.ext hx1; have hIn := hIn.ext hx1; have hB1 := hB1.ext hx1; have hB2 := hB2.ext hx1
  refine WL.val (Y.assign rfl) (by decide) ?_   -- t4 := assign c(false)
  refine WL.nil ?_
  refine hK1 _ _ ?_; try clear hK1 K1
  refine CW.seq fun K2 hK2 => ?_
  refine CW.quiet (fun wq => Ext w1 wq) (by kernel_rfl) (by kernel_rfl) Chg.drew ?_
  refine QL.val (fun wq hq => Y.load1 Try.underlying58 rfl (hB1.ext hq).mem.cell0 rfl) (by decide) ?_   -- t5 := load 58 t1
  refine QL.val (fun wq hq => Y.load1 Try.underlying55 rfl (hB2.ext hq).mem.cell0 rfl) (by decide) ?_   -- t6 := load 55 t2
  refine QL.val (fun wq hq => Y.nilCheck rfl) (by decide) ?_   -- t7 := nilCheck t6
  refine QL.val (fun wq hq => Y.fieldAddr fo_graphlook1 rfl) (by decide) ?_   -- t8 := fieldAddr 61 t7 1
  refine QL.val (fun wq hq => Y.load1 Try.underlying59 rfl (hK.ext hq).blk.mem.graphlook1 rfl) (by decide) ?_   -- t9 := load 59 t8
  refine QL.val (fun wq hq => Y.load Try.underlying45 rfl (hB3.ext hq).mem (sz_apiDigest _) rfl) (by decide) ?_   -- t10 := load 45 t3
  refine QL.val (fun wq hq => Y.lookupAt keyDig (fun _ => rfl) Try.underlying59 rfl rfl (hK.ext hq).map hf rfl) (by decide) ?_   -- t11 := lookup 59 t9 t10 false
  refine QL.val (fun wq hq => Y.indexAddrN Try.underlying58 rfl rfl sz0_bool (by omega)) (by decide) ?_   -- t12 := indexAddr 58 t5 t11
  refine QL.val (fun wq hq => Y.load1 Try.underlying4 rfl ((hIn.ext hq).bcell hcb) rfl) (by decide) ?_   -- t13 := load 4 t12
  refine QL.val (fun wq hq => Y.not rfl) (by decide) ?_   -- t14 := unOp not 4 t13
  refine QL.val (fun wq hq => Y.assign rfl) (by decide) ?_   -- t4 := assign t14
  refine QL.nil fun w2 hx2 => ?_
  have hz2 := hx2.size
  have hE := hE.thenExt hx2
  have hK := hK.ext hx2
  have hIn := hIn.ext hx2
  have hB1 := hB1.ext hx2
  have hB2 := hB2.ext hx2
  have hB3 := hB3.ext hx2
  refine hK2 _ _ ?_; try clear hK2 K2
  refine CW.ret ⟨_, rfl, ?_⟩
  exact ⟨by rw [hbit], hE⟩
theorem glacks1_any (wb w : World) (gk r sb b bi bk : Nat) (u : Value) (l : List NdV) (S0 In : List Bool) (d : Dig) (hK : LookAt wb w gk r sb u l S0) (hIn : Blk w b TBo (boolC In)) (hil : In.length = l.length) (hB1 : Blk w bi TSb [.slice (some ⟨b, 0, none⟩) l.length l.length]) (hB2 : Blk w bk TPk [.pointer (some ⟨gk, 0, none⟩)]) (hd : d ∈ idsL (ndsL l)) : Calls Try.prog 44 #[digV d, .pointer (some ⟨bi, 0, none⟩), .pointer (some ⟨bk, 0, none⟩)] w (Ret fun v w' => v = .bool (bitAt In (ndsL l) d) ∧ Ext w w') := by
  have hnl : (ndsL l).length = l.length := by simp
  have hix := ixN_lt hd
  rw [hnl] at hix
  obtain ⟨jf, hf⟩ := placed_ix hd
  obtain ⟨cb, hcb⟩ : ∃ cb, In[ixN (ndsL l) d]? = some cb := ⟨_, List.getElem?_eq_getElem (by omega)⟩
  have hbit : bitAt In (ndsL l) d = cb := by rw [bitAt, hcb]; rfl
  refine calls_of_CW 14 [4] [(0, digV d), (1, .pointer (some ⟨bi, 0, none⟩)), (2, .pointer (some ⟨bk, 0, none⟩))] Try.func44 rfl rfl rfl (by simp) args3 ?_
  have hE : Ext w w := Chg.refl
  refine CW.seq fun K1 hK1 => ?_
  refine CW.region ?_   -- region 0
  refine WL.box rfl rfl (by decide) fun g3 w1 hx1 hg3 hB3 => ?_   -- t3 := box 45 t0
  have hlt3 := hB3.lt; have hz1 := hx1.size
  have hM3 := hB3.mem; have hz1 := hx1.size; have hE := hE.thenExt hx1; have hK := hK.ext hx1; have hIn := hIn.ext hx1; have hB1 := hB1.ext hx1; have hB2 := hB2.ext hx1
  refine WL.val (Y.assign rfl) (by decide) ?_   -- t4 := assign c(false)
  refine WL.nil ?_
  refine hK1 _ _ ?_; try clear hK1 K1
  refine CW.seq fun K2 hK2 => ?_
  refine CW.quiet (fun wq => Ext w1 wq) (by kernel_rfl) (by kernel_rfl) Chg.drew ?_
  refine QL.val (fun wq hq => Y.load1 Try.underlying58 rfl (hB1.ext hq).mem.cell0 rfl) (by decide) ?_   -- t5 := load 58 t1
  refine QL.val (fun wq hq => Y.load1 Try.underlying55 rfl (hB2.ext hq).mem.cell0 rfl) (by decide) ?_   -- t6 := load 55 t2
  refine QL.val (fun wq hq => Y.nilCheck rfl) (by decide) ?_   -- t7 := nilCheck t6
  refine QL.val (fun wq hq => Y.fieldAddr fo_graphlook1 rfl) (by decide) ?_   -- t8 := fieldAddr 61 t7 1
  refine QL.val (fun wq hq => Y.load1 Try.underlying59 rfl (hK.ext hq).blk.mem.graphlook1 rfl) (by decide) ?_   -- t9 := load 59 t8
  refine QL.val (fun wq hq => Y.load Try.underlying45 rfl (hB3.ext hq).mem (sz_apiDigest _) rfl) (by decide) ?_   -- t10 := load 45 t3
  refine QL.val (fun wq hq => Y.lookupAt keyDig (fun _ => rfl) Try.underlying59 rfl rfl (hK.ext hq).map hf rfl) (by decide) ?_   -- t11 := lookup 59 t9 t10 false
  refine QL.val (fun wq hq => Y.indexAddrN Try.underlying58 rfl rfl sz0_bool (by omega)) (by decide) ?_   -- t12 := indexAddr 58 t5 t11
  refine QL.val (fun wq hq => Y.load1 Try.underlying4 rfl ((hIn.ext hq).bcell hcb) rfl) (by decide) ?_   -- t13 := load 4 t12
  refine QL.val (fun wq hq => Y.assign rfl) (by decide) ?_   -- t4 := assign t13
  refine QL.nil fun w2 hx2 => ?_
  have hz2 := hx2.size
  have hE := hE.thenExt hx2
  have hK := hK.ext hx2
  have hIn := hIn.ext hx2
  have hB1 := hB1.ext hx2
  have hB2 := hB2.ext hx2
  have hB3 := hB3.ext hx2
  refine hK2 _ _ ?_; try clear hK2 K2
  refine CW.ret ⟨_, rfl, ?_⟩
  exact ⟨by rw [hbit], hE⟩
theorem indexFunc_any {f : Nat} {fn : Func} (p : Dig → Bool) (cap : List Value) (u : Value) (l : List Dig) (w : World) (hf : Try.prog.funcs[f]? = some fn) (hb : fn.body.isNone = false) (hn : (fn.name == "runtime.NumGoroutine") = false) (hC : ∀ (d : Dig) (w1 : World), d ∈ l → Ext w w1 → Calls Try.prog f (digV d :: cap).toArray w1 (Ret fun v w2 => v = .bool (p d) ∧ Ext w1 w2)) (hu : Sl w digC 32 u l) : Calls Try.prog 55 #[u, .func (.func f) #[] cap.toArray] w (Ret fun v w' => ∃ k : Int, v = .int .i64 k ∧ ((k = -1 ∧ ∀ d ∈ l, p d = false) ∨ ∃ (j : Nat) (d : Dig), k = (j : Int) ∧ l[j]? = some d ∧ p d = true ∧ ∀ i d, i < j → l[i]? = some d → p d = false) ∧ Ext w w') := by
  have hl := hu
  obtain ⟨A, m, c, rfl, hm, hmc, hcm, hlx⟩ := hu
  unfold maxLen at hcm
  refine calls_of_CW 19 [4] [(0, .slice A m c), (1, .func (.func f) #[] cap.toArray)] Try.func55 rfl rfl rfl (by simp) args2 ?_
  have hE : Ext w w := Chg.refl
  refine CW.seq fun K1 hK1 => ?_
  refine CW.region ?_   -- region 0
  refine WL.val (Y.assign rfl) (by decide) ?_   -- t4 := assign c(0:i64)
  refine WL.nil ?_
  refine hK1 _ _ ?_; try clear hK1 K1
  refine CW.seq fun K2 hK2 => ?_
  refine CW.seq fun K3 hK3 => ?_
  refine CW.region ?_   -- region 1
  refine WL.val (Y.move rfl) (by decide) ?_   -- t6 := move t0
  refine WL.val (Y.len_slice Try.underlying23 rfl) (by decide) ?_   -- t7 := call len(t6) : 23
  refine WL.val (Y.move rfl) (by decide) ?_   -- t8 := move c(0:i64)
  refine WL.nil ?_
  refine hK3 _ _ ?_; try clear hK3 K3
  refine CW.block ?_   -- block 0
  refine CW.loop (X := Nat) (fun x => [(0, .slice A m c), (1, .func (.func f) #[] cap.toArray), (7, .int .i64 (m : Int)), (8, .int .i64 (x : Int))]) (fun x w0 => x ≤ m ∧ (∀ i d, i < x → l[i]? = some d → p d = false) ∧ Ext w w0) (fun x => m - x) 0 (by repeat (first | exact Fr.le.nil | refine Fr.le.cons rfl ?_)) ⟨Nat.zero_le _, (fun i d h => by omega), hE⟩ ?_
  intro x w1 hl1
  obtain ⟨hxm, hno, hE⟩ := hl1
  refine CW.seq fun K4 hK4 => ?_
  refine CW.region ?_   -- region 2
  refine WL.val (Y.lss rfl rfl) (by decide) ?_   -- t9 := binOp lss 3 t8 t7 3
  refine WL.nil ?_
  refine hK4 _ _ ?_; try clear hK4 K4
  refine CW.seq fun K5 hK5 => ?_
  first | refine CW.condD rfl (fun ht6 => ?_) (fun ht6 => ?_) | refine CW.condND rfl (fun ht6 => ?_) (fun ht6 => ?_) | refine CW.condN rfl (fun ht6 => ?_) (fun ht6 => ?_) | refine CW.cond rfl (fun ht6 => ?_) (fun ht6 => ?_)
  · -- then
    refine CW.skip ?_
    refine hK5 _ _ ?_; try clear hK5 K5
    refine CW.seq fun K7 hK7 => ?_
    refine CW.block ?_   -- block 1
    refine CW.seq fun K8 hK8 => ?_
    obtain ⟨d, hd⟩ : ∃ d, l[x]? = some d := ⟨_, List.getElem?_eq_getElem (by omega)⟩
    obtain ⟨a, rfl, hma⟩ := hlx _ _ hd
    refine CW.region ?_   -- region 3
    refine WL.val (Y.move rfl) (by decide) ?_   -- t10 := move t8
    refine WL.val (Y.assign rfl) (by decide) ?_   -- t5 := assign t10
    refine WL.nil ?_
    refine hK8 _ _ ?_; try clear hK8 K8
    refine CW.seq fun K9 hK9 => ?_
    refine CW.region ?_   -- region 4
    refine WL.val (Y.move rfl) (by decide) ?_   -- t11 := move t1
    refine WL.val (Y.move rfl) (by decide) ?_   -- t12 := move t0
    refine WL.val (Y.move rfl) (by decide) ?_   -- t13 := move t5
    refine WL.val (Y.indexAddrN Try.underlying23 rfl rfl sz0_apiDigest (by omega)) (by decide) ?_   -- t14 := indexAddr 23 t12 t13
    refine WL.val (Y.load Try.underlying45 rfl (hma.ext hE) (sz_apiDigest _) rfl) (by decide) ?_   -- t15 := load 45 t14
    refine WL.callV rfl hf hb hn rfl (hC d _ (List.mem_of_getElem? hd) hE) (by simp) ?_; rintro v16 w2 hR2   -- t16 := call t11(t15) : 45
    obtain ⟨rfl, hx2⟩ := hR2
    have hz2 := hx2.size
    have hE := hE.thenExt hx2
    refine WL.nil ?_
    refine hK9 _ _ ?_; try clear hK9 K9
    first | refine CW.condD rfl (fun ht10 => ?_) (fun ht10 => ?_) | refine CW.condND rfl (fun ht10 => ?_) (fun ht10 => ?_) | refine CW.condN rfl (fun ht10 => ?_) (fun ht10 => ?_) | refine CW.cond rfl (fun ht10 => ?_) (fun ht10 => ?_)
    · -- then
      refine CW.seq fun K11 hK11 => ?_
      refine CW.region ?_   -- region 5
      refine WL.val (Y.move rfl) (by decide) ?_   -- t17 := move t5
      refine WL.val (Y.assign rfl) (by decide) ?_   -- t4 := assign t17
      refine WL.nil ?_
      refine hK11 _ _ ?_; try clear hK11 K11
      refine CW.ret ⟨_, rfl, ?_⟩
      exact ⟨x, rfl, .inr ⟨x, d, rfl, hd, by assumption, hno⟩, hE⟩
    -- else
    refine CW.skip ?_
    refine hK7 _ _ ?_; try clear hK7 K7
    refine CW.region ?_   -- region 6
    refine WL.val (Y.add rfl rfl ⟨by omega, by omega⟩) (by decide) ?_   -- t18 := binOp add 3 t8 c(1:i64) 3
    refine WL.val (Y.move rfl) (by decide) ?_   -- t8 := move t18
    refine WL.nil ?_
    refine ⟨x + 1, by show m - (x + 1) < m - x; omega, (by repeat (first | exact Fr.le.nil | refine Fr.le.cons rfl ?_)), by show x + 1 ≤ m; omega, ?_, hE⟩
    intro i d2 hi h1
    by_cases e : i < x
    · exact hno i d2 e h1
    · have e2 : i = x := by omega
      subst e2
      rw [hd] at h1; cases h1
      simp_all
  -- else
  refine CW.exit ?_   -- exit 0
  refine hK2 _ _ ?_; try clear hK2 K2
  refine CW.seq fun K12 hK12 => ?_
  refine CW.region ?_   -- region 7
  refine WL.val (Y.assign rfl) (by decide) ?_   -- t4 := assign c(-1:i64)
  refine WL.nil ?_
  refine hK12 _ _ ?_; try clear hK12 K12
  refine CW.ret ⟨_, rfl, ?_⟩
  refine ⟨-1, rfl, .inl ⟨rfl, fun d hd => ?_⟩, hE⟩
  obtain ⟨j, hj⟩ := List.mem_iff_getElem?.1 hd
  exact hno j d (by have := (List.getElem?_eq_some_iff.1 hj).1; omega) hj
theorem containsFunc_any {f : Nat} {fn : Func} (p : Dig → Bool) (cap : List Value) (u : Value) (l : List Dig) (w : World) (hf : Try.prog.funcs[f]? = some fn) (hb : fn.body.isNone = false) (hn : (fn.name == "runtime.NumGoroutine") = false) (hC : ∀ (d : Dig) (w1 : World), d ∈ l → Ext w w1 → Calls Try.prog f (digV d :: cap).toArray w1 (Ret fun v w2 => v = .bool (p d) ∧ Ext w1 w2)) (hu : Sl w digC 32 u l) : Calls Try.prog 46 #[u, .func (.func f) #[] cap.toArray] w (Ret fun v w' => v = .bool (l.any p) ∧ Ext w w') := by
  refine calls_of_CW 9 [4] [(0, u), (1, .func (.func f) #[] cap.toArray)] Try.func46 rfl rfl rfl (by simp) args2 ?_
  have hE : Ext w w := Chg.refl
  refine CW.seq fun K1 hK1 => ?_
  refine CW.region ?_   -- region 0
  refine WL.val (Y.assign rfl) (by decide) ?_   -- t4 := assign c(false)
  refine WL.nil ?_
  refine hK1 _ _ ?_; try clear hK1 K1
  refine CW.seq fun K2 hK2 => ?_
  refine CW.region ?_   -- region 1
  refine WL.val (Y.move rfl) (by decide) ?_   -- t5 := move t0
  refine WL.val (Y.move rfl) (by decide) ?_   -- t6 := move t1
  refine WL.call Try.func55 rfl rfl rfl (indexFunc_any p cap u l _ hf hb hn hC hu) (by simp) ?_; rintro v7 w1 hR1   -- t7 := call F55(t5, t6) : 23,71
  obtain ⟨k, rfl, hk, hx1⟩ := hR1
  have hz1 := hx1.size
  have hE := hE.thenExt hx1
  refine WL.val (Y.geq rfl rfl) (by decide) ?_   -- t8 := binOp geq 3 t7 c(0:i64) 3
  refine WL.val (Y.assign rfl) (by decide) ?_   -- t4 := assign t8
  refine WL.nil ?_
  refine hK2 _ _ ?_; try clear hK2 K2
  refine CW.ret ⟨_, rfl, ?_⟩
  refine ⟨?_, hE⟩
  rcases hk with ⟨rfl, hno⟩ | ⟨j, d, rfl, hd, hp, _⟩
  · have e : l.any p = false := List.any_eq_false.2 fun d hd => by simp [hno d hd]
    rw [e]; rfl
  · have e : l.any p = true := List.any_eq_true.2 ⟨d, List.mem_of_getElem? hd, hp⟩
    rw [e, decide_eq_true (by omega)]
end Go.Proofs.Ytecolkngbcgmcaa
