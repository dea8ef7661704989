/- The law's functions: commits, alive, Grown, place, walked. No condition. -/
import Derived.Test.YtffkmlkdlhkkmaaFc
import Derived.Test.YtffkmlkdlhkkmaaQv
import Derived.Test.YtffkmlkdlhkkmaaQz
set_option linter.unusedSimpArgs false
set_option linter.unusedVariables false
namespace Go.Fw
open Go.Fu Go.Pl
/-- A commit as it lies: its operations' slice. -/
structure CmV where
  id : Dig
  ops : List OpD
  A : Option Addr
  c : Nat
abbrev CmV.pv (x : CmV) : Value := .slice x.A x.ops.length x.c
def cmC (x : CmV) : List Value := digC x.id ++ [x.pv]
theorem cmC_length (x : CmV) : (cmC x).length = 33 := by simp [cmC, digC_length]
abbrev cmV (x : CmV) : Value := .agg (cmC x).toArray
theorem one_cmC {x : CmV} : ∀ u ∈ cmC x, u.oneCell' = true := by
  intro u hu
  simp only [cmC, List.mem_append, List.mem_singleton] at hu
  rcases hu with hu | rfl
  · exact one_digC u hu
  · rfl
def CmV.zero : CmV := ⟨Dig.zero, [], none, 0⟩
section
variable {w : World} {a : Addr} {x : CmV}
theorem Mem.recensionlaw08Commit0 (h : Mem w a (cmC x)) : Mem w (a.add 0) (digC x.id) := h.sub 0 fun j v hj => by
  have hlt : j < (digC x.id).length := (List.getElem?_eq_some_iff.1 hj).1
  rw [Nat.zero_add, cmC, List.getElem?_append_left hlt]
  exact hj
theorem Mem.recensionlaw08Commit1 (h : Mem w a (cmC x)) : w.cell? (a.add 32) = some (.slice x.A x.ops.length x.c) := h.cell 32 (by
  rw [cmC, List.getElem?_append_right (by rw [digC_length]; omega), digC_length]
  rfl)
end
/-- A list of commits in memory. -/
structure Cms (w : World) (u : Value) (l : List CmV) : Prop where
  sl : Sl w cmC 33 u l
  ops : ∀ x ∈ l, Sl w opC 37 x.pv x.ops
  fit : ∀ x ∈ l, x.ops.length * 72 ≤ 140737488355328
  few : l.length < 4398046511104
theorem Cms.ext {w w' : World} {u : Value} {l : List CmV} (h : Cms w u l) (hc : Ext w w') : Cms w' u l := ⟨h.sl.ext hc, fun x hx => (h.ops x hx).ext hc, h.fit, h.few⟩
theorem Sl.own_lt {α : Type} {w : World} {enc : α → List Value} {k : Nat} {v : Value} {xs : List α} (h : Sl w enc k v xs) (he : ∀ x, enc x ≠ []) (hx : xs ≠ []) : ∀ b, v.ownBlock = some b → b < w.heap.size := by
  obtain ⟨A, m, c, rfl, _, _, _, hg⟩ := h
  cases xs with
  | nil => exact absurd rfl hx
  | cons y r =>
    obtain ⟨a, rfl, hm⟩ := hg 0 y rfl
    intro b hb
    have h1 := hm.lt (he y)
    simp [Value.ownBlock] at hb
    have h2 : (a.add (0 * k)).block = a.block := by unfold Addr.add; split <;> rfl
    rw [h2] at h1
    omega
theorem run_bsK2 {P : Program} {t e : TypeId} {ie : TypeInfo} {z : Value} {a b : Value} {xs ys : List Value} (hu : P.underlying t = some (.slice e)) (hi : P.info? e = some ie) (hz : ie.zero = some z) (h0 : 0 < ie.size) (hsm : ie.size * 2 ≤ 16777216) (ha : a.cells = xs.toArray) (hb : b.cells = ys.toArray) (hla : xs.length = ie.size) (hlb : ys.length = ie.size) (w : World) :
    (Instr.buildSlice t 2 [(0, a), (1, b)].toArray).run P w = .ok (.slice (some ⟨w.heap.size, 0, none⟩) 2 2) (w.alloc (.cells (xs ++ ys).toArray e)) := by
  refine run_buildSlice w t e 2 _ _ ie z hu hi hz (by omega) (by omega) ?_
  have h := Go.Great.fill_whole (s := ie.size) h0 [a, b] ((Array.range (2 * ie.size)).map (z.cells[· % z.cells.size]!)) (by intro u hu; simp at hu; rcases hu with rfl | rfl <;> simp [*]) (by simp)
  simpa [ha, hb] using h
end Go.Fw
namespace Go.Proofs.Ytffkmlkdlhkkmaa
open Go.RowKit Go.Fw Go.Fu Go.Pl
abbrev TCm : TypeId := 42
theorem sz0_recensionlaw08Commit : (Try.prog.info? TCm).map (·.size) = some 33 := by kernel_rfl
theorem sz_recensionlaw08Commit (x : CmV) : (Try.prog.info? TCm).map (·.size) = some (cmC x).length := by rw [cmC_length]; exact sz0_recensionlaw08Commit
theorem sz_sOp8 : (Try.prog.info? 35).map (·.size) = some 1 := by kernel_rfl
theorem fo_recensionlaw08Commit0 : FieldOff Try.prog TCm 0 0 := ⟨_, _, 32, Try.underlying42, rfl, sz_dig, by decide, rfl⟩
theorem fo_recensionlaw08Commit1 : FieldOff Try.prog TCm 1 32 := ⟨_, _, 1, Try.underlying42, rfl, sz_sOp8, by decide, rfl⟩
theorem info_cm : ∃ i : TypeInfo, Try.prog.info? TCm = some i ∧ i.zero = some (cmV CmV.zero) ∧ i.size = 33 := by
  have h : (Try.prog.info? TCm).map (fun i => (i.zero, i.size)) = some (some (cmV CmV.zero), 33) := by kernel_rfl
  cases hi : Try.prog.info? TCm with
  | none => simp [hi] at h
  | some i => simp [hi] at h; exact ⟨i, rfl, h.1, h.2⟩
theorem as_recensionlaw08Commit {n : NN} {Φ : Exit → Fr → World → Prop} {fr : Fr} {w : World} {ops : Array Oper} {rest : List Oper} {d : Nat} {x : Operand} {ty ty' : TypeId} {pos pos' : String} {aft aft' : Array Edge} {v : CmV}
    (hx : ev fr x = some (.agg (cmC v).toArray)) (hxd : x ≠ .tmp d) (hd : d < n.1)
    (h : ∀ g w', Ext w w' → w.heap.size ≤ g → Blk w' g TCm (cmC v) → WL Try.prog ops n Φ rest ((d, .pointer (some ⟨g, 0, none⟩)) :: fr) w') :
    WL Try.prog ops n Φ (⟨some d, .alloc TCm, ty, pos, aft, none⟩ :: ⟨none, .store TCm (.tmp d) x, ty', pos', aft', none⟩ :: rest) fr w := by
  obtain ⟨i, hi, hz, hs⟩ := info_cm
  exact WL.allocStore (zs := cmC CmV.zero) hi hz rfl (by rw [hs, cmC_length]) (by rw [cmC_length, cmC_length]) hx hxd rfl one_cmC hd h
theorem bs2_op (x y : OpD) (w : World) : (Instr.buildSlice 35 2 [(0, opV x), (1, opV y)].toArray).run Try.prog w = .ok (.slice (some ⟨w.heap.size, 0, none⟩) 2 2) (w.alloc (.cells (opC x ++ opC y).toArray 62)) := by
  obtain ⟨i, z, hi, hz, hk, _⟩ := ai_op
  exact run_bsK2 Try.underlying35 hi hz (by omega) (by omega) rfl rfl (by rw [opC_length, hk]) (by rw [opC_length, hk]) w
theorem build_D1 (w : World) : (Instr.build TD8 [(0, Value.int .u8 1)].toArray).run Try.prog w = .ok (.agg (digC D1).toArray) w := run_build w _ _ _ (by kernel_rfl)
theorem build_opA (w : World) : (Instr.build 62 [(0, Value.int .i64 1), (3, Value.int .u8 97)].toArray).run Try.prog w = .ok (.agg (opC ⟨1, false, RefD.zero, 97⟩).toArray) w := run_build w _ _ _ (by kernel_rfl)
theorem build_refO (w : World) : (Instr.build 49 [(0, Value.bool true), (2, Value.int .i64 1)].toArray).run Try.prog w = .ok (.agg (refC ⟨true, Dig.zero, 1⟩).toArray) w := run_build w _ _ _ (by kernel_rfl)
theorem build_opB (w : World) : (Instr.build 62 [(0, Value.int .i64 1), (3, Value.int .u8 98), (2, .agg (refC ⟨true, Dig.zero, 1⟩).toArray)].toArray).run Try.prog w = .ok (.agg (opC ⟨1, false, ⟨true, Dig.zero, 1⟩, 98⟩).toArray) w := run_build w _ _ _ (by kernel_rfl)
theorem Blk.own {w : World} {g k m : Nat} {t : TypeId} {cs : List Value} (h : Blk w g t cs) (hl : cs.length = m * k) (hm : m ≤ maxLen) : Own w t k (.slice (some ⟨g, 0, none⟩) m m) cs := .inr ⟨g, m, m, [], (0, 0), rfl, (by have h9 : w.heap[g]? = _ := h; simpa using h9), by simp [hl], by omega, hm, by simp [hl], fun o _ => by simp⟩
theorem Fp.ofNew {g rb ra gn q : Nat} (h : Fp g rb ra (newN gn) q) : q = g ∨ q = rb ∨ q = ra ∨ q = gn := by
  rcases h with h | h | h | ⟨x, hx, h⟩
  · exact .inl h
  · exact .inr (.inl h)
  · exact .inr (.inr (.inl h))
  · simp [newN] at hx
    subst hx
    rcases h with h | ⟨s, h⟩
    · exact .inr (.inr (.inr h))
    · cases s <;> simp [Nn.sv, Value.ownBlock] at h
theorem one_ops {l : List OpD} : ∀ u ∈ (l.map opC).flatten, u.oneCell' = true := by
  intro u hu
  obtain ⟨cs, hcs, hu⟩ := List.mem_flatten.1 hu
  obtain ⟨x, _, rfl⟩ := List.mem_map.1 hcs
  exact one_opC u hu
theorem addT_few {T : Tr} {id : Dig} {ops : List OpD} {n : Nat} (h : T.ad.length ≤ n) : (addT T id ops).ad.length ≤ n + 1 := by
  unfold addT
  split
  · simp; omega
  · omega
theorem opC_ne (x : OpD) : opC x ≠ [] := fun h => by have := opC_length x; rw [h] at this; cases this
/-- Both trees, as commits made them. -/
structure GrAt (w w0 : World) (g rb ra : Nat) (ns : List Nn) (gr : Nat) (rs : List Rn) (av ev_ : Value) (L : Coms) (T : Tr) (n : Nat) : Prop where
  ft : FtAt w0 g rb ra T.ad ns
  fe : Fw.els ns = T.e
  rt : RtAt w0 gr T.ad rs av ev_
  re : rels rs = T.e
  ok : TreeOk L T
  few : T.ad.length ≤ n
  fnew : ∀ q, Fp g rb ra ns q → w.heap.size ≤ q
  rnew : ∀ q, Rp gr rs av ev_ q → w.heap.size ≤ q ∧ ¬ Fp g rb ra ns q
  ext : Ext w w0

theorem place_any (n : Int) (m : Nat) (w : World) (hm : m < 4611686018427387904) : Calls Try.prog 13 #[.int .i64 n, .int .i64 (m : Int)] w (Ret fun v w' => v = .int .i64 (placeI n m) ∧ Ext w w') := by
  have hb := placeI_bound n m
  refine calls_of_CW 15 [4] [(0, .int .i64 n), (1, .int .i64 (m : Int))] Try.func13 rfl rfl rfl (by simp) args2 ?_
  have hE : Ext w w := Chg.refl
  refine CW.seq fun K1 hK1 => ?_
  refine CW.region ?_   -- region 0
  refine WL.val (Y.assign rfl) (by decide) ?_   -- t4 := assign c(0:i64)
  refine WL.nil ?_
  refine hK1 _ _ ?_; try clear hK1 K1
  refine CW.seq fun K2 hK2 => ?_
  refine CW.region ?_   -- region 1
  refine WL.val (Y.move rfl) (by decide) ?_   -- t5 := move t0
  refine WL.val (Y.move rfl) (by decide) ?_   -- t6 := move t1
  refine WL.val (Y.add rfl rfl ⟨by omega, by omega⟩) (by decide) ?_   -- t7 := binOp add 3 t6 c(1:i64) 3
  refine WL.val (Y.rem rfl rfl (by omega)) (by decide) ?_   -- t8 := binOp rem 3 t5 t7 3
  refine WL.val (Y.move rfl) (by decide) ?_   -- t9 := move t1
  refine WL.val (Y.add rfl rfl ⟨by omega, by omega⟩) (by decide) ?_   -- t10 := binOp add 3 t8 t9 3
  refine WL.val (Y.add rfl rfl ⟨by omega, by omega⟩) (by decide) ?_   -- t11 := binOp add 3 t10 c(1:i64) 3
  refine WL.val (Y.move rfl) (by decide) ?_   -- t12 := move t1
  refine WL.val (Y.add rfl rfl ⟨by omega, by omega⟩) (by decide) ?_   -- t13 := binOp add 3 t12 c(1:i64) 3
  refine WL.val (Y.rem rfl rfl (by omega)) (by decide) ?_   -- t14 := binOp rem 3 t11 t13 3
  refine WL.val (Y.assign rfl) (by decide) ?_   -- t4 := assign t14
  refine WL.nil ?_
  refine hK2 _ _ ?_; try clear hK2 K2
  refine CW.ret ⟨_, rfl, ?_⟩
  exact ⟨rfl, hE⟩
theorem alive_any (w : World) : Calls Try.prog 12 #[] w (Ret fun v w' => v = .bool true ∧ Ext w w') := by
  refine calls_of_CW 48 [0] [] Try.func12 rfl rfl rfl (by simp) args0 ?_
  have hE : Ext w w := Chg.refl
  refine CW.seq fun K1 hK1 => ?_
  refine CW.region ?_   -- region 0
  refine WL.val (Y.assign rfl) (by decide) ?_   -- t0 := assign c(false)
  refine WL.nil ?_
  refine hK1 _ _ ?_; try clear hK1 K1
  refine CW.seq fun K2 hK2 => ?_
  refine CW.region ?_   -- region 1
  refine WL.call Try.func30 rfl rfl rfl (fnew_any _) (by simp) ?_; rintro v7 w1 hR1   -- t7 := call F30() : 
  obtain ⟨g, rb, ra, gn, rfl, hn1, hn2, hn3, hn4, hT, hx1⟩ := hR1
  have hz1 := hx1.size
  have hE := hE.thenExt hx1
  refine WL.val (Y.assign rfl) (by decide) ?_   -- t1 := assign t7
  refine WL.nil ?_
  refine hK2 _ _ ?_; try clear hK2 K2
  refine CW.seq fun K3 hK3 => ?_
  refine CW.seq fun K4 hK4 => ?_
  refine CW.region ?_   -- region 2
  refine WL.val (Y.move rfl) (by decide) ?_   -- t8 := move t1
  refine WL.val (Y.eql_fugueTree rfl rfl) (by decide) ?_   -- t9 := binOp eql 27 t8 c(['Go.Value.pointer', 'none']) 27
  refine WL.nil ?_
  refine hK4 _ _ ?_; try clear hK4 K4
  first | refine CW.condD rfl (fun ht5 => ?_) (fun ht5 => ?_) | refine CW.condND rfl (fun ht5 => ?_) (fun ht5 => ?_) | refine CW.condN rfl (fun ht5 => ?_) (fun ht5 => ?_) | refine CW.cond rfl (fun ht5 => ?_) (fun ht5 => ?_)
  · -- then
    refine CW.seq fun K6 hK6 => ?_
    refine CW.region ?_   -- region 3
    refine WL.val (Y.assign rfl) (by decide) ?_   -- t0 := assign c(false)
    refine WL.nil ?_
    refine hK6 _ _ ?_; try clear hK6 K6
    refine CW.ret ⟨_, rfl, ?_⟩
    simp_all
  -- else
  refine CW.skip ?_
  refine hK3 _ _ ?_; try clear hK3 K3
  refine CW.seq fun K7 hK7 => ?_
  refine CW.region ?_   -- region 4
  refine WL.val (Y.build rfl (build_D1 _)) (by decide) ?_   -- t10 := build 24 [(0,c(1:u8))]
  refine as_apiDigest rfl (by simp) (by decide) fun g2 w2 hx2 hg2 hB2 => ?_   -- alloc 24; store 24 t2 t10
  have hlt2 := hB2.lt; have hz2 := hx2.size
  have hM2 := hB2.mem; have hz2 := hx2.size; have hE := hE.thenExt hx2
  refine WL.nil ?_
  refine hK7 _ _ ?_; try clear hK7 K7
  refine CW.seq fun K8 hK8 => ?_
  refine CW.region ?_   -- region 5
  refine WL.val (Y.move rfl) (by decide) ?_   -- t11 := move t1
  refine WL.val (Y.load Try.underlying24 rfl hB2.mem (sz_apiDigest _) rfl) (by decide) ?_   -- t12 := load 24 t2
  refine WL.val (Y.build rfl (build_opA _)) (by decide) ?_   -- t13 := build 62 [(0,c(1:i64)), (3,c(97:u8))]
  refine WL.val (Y.build rfl (build_refO _)) (by decide) ?_   -- t14 := build 49 [(0,c(true)), (2,c(1:i64))]
  refine WL.val (Y.build rfl (build_opB _)) (by decide) ?_   -- t15 := build 62 [(0,c(1:i64)), (3,c(98:u8)), (2,t14)]
  refine WL.st (St.buildSlice rfl (bs2_op _ _)) (by decide) fun v16 w3 hR3 => ?_   -- t16 := buildSlice 35 2 [(0,t13), (1,t15)]
  obtain ⟨go, rfl, hgo, hBo, hx3⟩ := hR3
  have hz3 := hx3.size
  have hE := hE.thenExt hx3
  have hB2 := hB2.ext hx3
  have hT3 := (hT.ext hx2).ext hx3
  have hOo : Own w3 62 37 (.slice (some ⟨go, 0, none⟩) 2 2) (((aliveOps).map opC).flatten) := by
    have h9 := Blk.own (k := 37) (m := 2) hBo (by rw [List.length_append, opC_length, opC_length]) (by unfold maxLen; omega)
    simpa [aliveOps] using h9
  have hSo := hOo.sl opC_length (by decide)
  refine WL.call Try.func17 rfl rfl rfl (fadd_any g rb ra [] (newN gn) D1 _ aliveOps [] _ hT3 treeOk_new hSo (fun _ k hk => by
      simp [Value.ownBlock] at hk
      have := hBo.lt
      exact ⟨by omega, fun h => by have := hT.lt h; omega⟩)) (by simp) ?_; rintro v17 w4 hR4   -- t17 := call F17(t11, t12, t16) : 27,24,35
  obtain ⟨rfl, ns1, hT4, he4, hc4, _⟩ := hR4
  have hw0 : wrongC ⟨[], Fw.els (newN gn)⟩ D1 aliveOps = 0 := alive_e
  rw [hw0]
  have hz4 := hc4.size
  have hE := hE.step hc4 (fun q hq => by have := hq.ofNew; omega)
  have hB2 := hB2.chg hc4 (hT3.dig_ne hB2)
  have hok := treeOk_new.add alive_e
  have he5 : Fw.els ns1 = (addT Tr.new D1 aliveOps).e := he4
  have hG4 : Fu.Good (Fw.els ns1) := by rw [he5]; exact hok.good
  have hn5 : ns1.length ≤ 400001 := by
    have h1 : (Fw.els ns1).length = ns1.length := List.length_map _
    rw [← h1, he5]; exact hok.few
  have hgp : gapE (Fw.els ns1) 1 = (⟨false, D1, 2⟩, true, true) := by rw [he5]; exact alive_g
  have htx : textE (Fw.els ns1) = [97, 98] := by rw [he5]; exact alive_t
  have hln : liveN ns1 = 2 := by show (Fw.els ns1).countP _ = 2; rw [he5]; exact alive_l
  refine WL.val (Y.assign rfl) (by decide) ?_   -- t3 := assign t17
  refine WL.nil ?_
  refine hK8 _ _ ?_; try clear hK8 K8
  refine CW.seq fun K9 hK9 => ?_
  refine CW.region ?_   -- region 6
  refine WL.val (Y.move rfl) (by decide) ?_   -- t19 := move t1
  refine WL.call Try.func34 rfl rfl rfl ((by have h9 := fgap_any g rb ra _ ns1 1 _ hT4 hG4 hn5; rw [hgp] at h9; exact h9)) (by simp) ?_; rintro v w5 ⟨rfl, hx5⟩; have hz5 := hx5.size; have hE := hE.thenExt hx5; have hB2 := hB2.ext hx5   -- t20 := call F34(t19, c(1:i64)) : 27,3
  refine WL.val (Y.move rfl) (by decide) ?_   -- t18 := move t20
  refine WL.val (Y.extract rfl rfl) (by decide) ?_   -- t21 := extract t18 0
  refine WL.val (Y.extract rfl rfl) (by decide) ?_   -- t22 := extract t18 1
  refine WL.val (Y.extract rfl rfl) (by decide) ?_   -- t23 := extract t18 2
  refine as_apiRef rfl (by simp) (by decide) fun g4 w6 hx6 hg4 hB4 => ?_   -- alloc 49; store 49 t4 t21
  have hlt4 := hB4.lt; have hz6 := hx6.size
  have hM4 := hB4.mem; have hz6 := hx6.size; have hE := hE.thenExt hx6; have hB2 := hB2.ext hx6
  refine WL.val (Y.assign rfl) (by decide) ?_   -- t5 := assign t22
  refine WL.val (Y.assign rfl) (by decide) ?_   -- t6 := assign t23
  refine WL.nil ?_
  refine hK9 _ _ ?_; try clear hK9 K9
  refine CW.seq fun K10 hK10 => ?_
  refine CW.region ?_   -- region 7
  refine WL.val (Y.move rfl) (by decide) ?_   -- t24 := move t3
  refine WL.val (Y.eql rfl rfl) (by decide) ?_   -- t25 := binOp eql 38 t24 c(0:i64) 38
  refine WL.val (Y.move rfl) (by decide) ?_   -- t26 := move t25
  first | refine WL.casesD (d := 26) rfl (fun hg26 => ?_) (fun hg26 => ?_) | refine WL.casesND (d := 26) rfl (fun hg26 => ?_) (fun hg26 => ?_) | refine WL.cases (d := 26) rfl (fun hg26 => ?_) (fun hg26 => ?_)
  · -- t26 = T
    refine WL.gval rfl rfl (Y.move rfl) (by decide) ?_   -- t27 := move t1 [if 2=true]
    refine WL.gcall rfl rfl Try.func15 rfl rfl rfl ((by have h9 := ftext_any g rb ra _ ns1 _ ((hT4.ext hx5).ext hx6) hG4 hn5; rw [htx] at h9; exact h9)) (by decide) ?_; rintro v w7 ⟨rfl, hx7⟩; have hz7 := hx7.size; have hE := hE.thenExt hx7; have hB2 := hB2.ext hx7; have hB4 := hB4.ext hx7   -- t28 := call F15(t27) : 27 [if 2=true]
    refine WL.gval rfl rfl (Y.eql_string rfl rfl) (by decide) ?_   -- t29 := binOp eql 9 t28 c(STR) 9 [if 2=true]
    refine WL.val (Y.pick rfl rfl) (by decide) ?_   -- t30 := pick t26 t29 c(false)
    refine WL.val (Y.move rfl) (by decide) ?_   -- t31 := move t30
    first | refine WL.casesD (d := 31) rfl (fun hg31 => ?_) (fun hg31 => ?_) | refine WL.casesND (d := 31) rfl (fun hg31 => ?_) (fun hg31 => ?_) | refine WL.cases (d := 31) rfl (fun hg31 => ?_) (fun hg31 => ?_)
    · -- t31 = T
      refine WL.gval rfl rfl (Y.move rfl) (by decide) ?_   -- t32 := move t6 [if 7=true]
      refine WL.val (Y.pick rfl rfl) (by decide) ?_   -- t33 := pick t31 t32 c(false)
      refine WL.val (Y.move rfl) (by decide) ?_   -- t34 := move t33
      first | refine WL.casesD (d := 34) rfl (fun hg34 => ?_) (fun hg34 => ?_) | refine WL.casesND (d := 34) rfl (fun hg34 => ?_) (fun hg34 => ?_) | refine WL.cases (d := 34) rfl (fun hg34 => ?_) (fun hg34 => ?_)
      · -- t34 = T
        refine WL.gval rfl rfl (Y.move rfl) (by decide) ?_   -- t35 := move t5 [if 10=true]
        refine WL.val (Y.pick rfl rfl) (by decide) ?_   -- t36 := pick t34 t35 c(false)
        refine WL.val (Y.move rfl) (by decide) ?_   -- t37 := move t36
        first | refine WL.casesD (d := 37) rfl (fun hg37 => ?_) (fun hg37 => ?_) | refine WL.casesND (d := 37) rfl (fun hg37 => ?_) (fun hg37 => ?_) | refine WL.cases (d := 37) rfl (fun hg37 => ?_) (fun hg37 => ?_)
        · -- t37 = T
          refine WL.gval rfl rfl (Y.load Try.underlying49 rfl hB4.mem (sz_apiRef _) rfl) (by decide) ?_   -- t38 := load 49 t4 [if 13=true]
          refine WL.gval rfl rfl (Y.load Try.underlying24 rfl hB2.mem (sz_apiDigest _) rfl) (by decide) ?_   -- t39 := load 24 t2 [if 13=true]
          refine WL.gval rfl rfl (Y.build rfl (build_ref2 _ _ _)) (by decide) ?_   -- t40 := build 49 [(1,t39), (2,c(2:i64))] [if 13=true]
          refine WL.gval rfl rfl (Y.eql_apiRef rfl rfl) (by decide) ?_   -- t41 := binOp eql 49 t38 t40 49 [if 13=true]
          refine WL.val (Y.pick rfl rfl) (by decide) ?_   -- t42 := pick t37 t41 c(false)
          refine WL.val (Y.move rfl) (by decide) ?_   -- t43 := move t42
          first | refine WL.casesD (d := 43) rfl (fun hg43 => ?_) (fun hg43 => ?_) | refine WL.casesND (d := 43) rfl (fun hg43 => ?_) (fun hg43 => ?_) | refine WL.cases (d := 43) rfl (fun hg43 => ?_) (fun hg43 => ?_)
          · -- t43 = T
            refine WL.gval rfl rfl (Y.move rfl) (by decide) ?_   -- t44 := move t1 [if 19=true]
            refine WL.gcall rfl rfl Try.func14 rfl rfl rfl ((by have h9 := flen_any g rb ra _ ns1 _ (((hT4.ext hx5).ext hx6).ext hx7); rw [hln] at h9; exact h9)) (by decide) ?_; rintro v w8 ⟨rfl, hx8⟩; have hz8 := hx8.size; have hE := hE.thenExt hx8; have hB2 := hB2.ext hx8; have hB4 := hB4.ext hx8   -- t45 := call F14(t44) : 27 [if 19=true]
            refine WL.gval rfl rfl (Y.eql rfl rfl) (by decide) ?_   -- t46 := binOp eql 3 t45 c(2:i64) 3 [if 19=true]
            refine WL.val (Y.pick rfl rfl) (by decide) ?_   -- t47 := pick t43 t46 c(false)
            refine WL.val (Y.assign rfl) (by decide) ?_   -- t0 := assign t47
            refine WL.nil ?_
            refine hK10 _ _ ?_; try clear hK10 K10
            refine CW.ret ⟨_, rfl, ?_⟩
            exact ⟨by simp_all, hE⟩
          · -- t43 = F
            refine WL.goff rfl rfl (by decide) ?_   -- t44 := move t1 [if 19=true]
            refine WL.goff rfl rfl (by decide) ?_   -- t45 := call F14(t44) : 27 [if 19=true]
            refine WL.goff rfl rfl (by decide) ?_   -- t46 := binOp eql 3 t45 c(2:i64) 3 [if 19=true]
            refine WL.val (Y.pick rfl rfl) (by decide) ?_   -- t47 := pick t43 t46 c(false)
            refine WL.val (Y.assign rfl) (by decide) ?_   -- t0 := assign t47
            refine WL.nil ?_
            refine hK10 _ _ ?_; try clear hK10 K10
            refine CW.ret ⟨_, rfl, ?_⟩
            first | exact absurd rfl (by assumption) | exact absurd hg31 (by rw [show bs [97, 98] = ⟨#[97, 98]⟩ from rfl, beq_self_eq_true]; decide) | (simp_all; done)
        · -- t37 = F
          refine WL.goff rfl rfl (by decide) ?_   -- t38 := load 49 t4 [if 13=true]
          refine WL.goff rfl rfl (by decide) ?_   -- t39 := load 24 t2 [if 13=true]
          refine WL.goff rfl rfl (by decide) ?_   -- t40 := build 49 [(1,t39), (2,c(2:i64))] [if 13=true]
          refine WL.goff rfl rfl (by decide) ?_   -- t41 := binOp eql 49 t38 t40 49 [if 13=true]
          refine WL.val (Y.pick rfl rfl) (by decide) ?_   -- t42 := pick t37 t41 c(false)
          refine WL.val (Y.move rfl) (by decide) ?_   -- t43 := move t42
          refine WL.goff rfl rfl (by decide) ?_   -- t44 := move t1 [if 19=true]
          refine WL.goff rfl rfl (by decide) ?_   -- t45 := call F14(t44) : 27 [if 19=true]
          refine WL.goff rfl rfl (by decide) ?_   -- t46 := binOp eql 3 t45 c(2:i64) 3 [if 19=true]
          refine WL.val (Y.pick rfl rfl) (by decide) ?_   -- t47 := pick t43 t46 c(false)
          refine WL.val (Y.assign rfl) (by decide) ?_   -- t0 := assign t47
          refine WL.nil ?_
          refine hK10 _ _ ?_; try clear hK10 K10
          refine CW.ret ⟨_, rfl, ?_⟩
          first | exact absurd rfl (by assumption) | exact absurd hg31 (by rw [show bs [97, 98] = ⟨#[97, 98]⟩ from rfl, beq_self_eq_true]; decide) | (simp_all; done)
      · -- t34 = F
        refine WL.goff rfl rfl (by decide) ?_   -- t35 := move t5 [if 10=true]
        refine WL.val (Y.pick rfl rfl) (by decide) ?_   -- t36 := pick t34 t35 c(false)
        refine WL.val (Y.move rfl) (by decide) ?_   -- t37 := move t36
        refine WL.goff rfl rfl (by decide) ?_   -- t38 := load 49 t4 [if 13=true]
        refine WL.goff rfl rfl (by decide) ?_   -- t39 := load 24 t2 [if 13=true]
        refine WL.goff rfl rfl (by decide) ?_   -- t40 := build 49 [(1,t39), (2,c(2:i64))] [if 13=true]
        refine WL.goff rfl rfl (by decide) ?_   -- t41 := binOp eql 49 t38 t40 49 [if 13=true]
        refine WL.val (Y.pick rfl rfl) (by decide) ?_   -- t42 := pick t37 t41 c(false)
        refine WL.val (Y.move rfl) (by decide) ?_   -- t43 := move t42
        refine WL.goff rfl rfl (by decide) ?_   -- t44 := move t1 [if 19=true]
        refine WL.goff rfl rfl (by decide) ?_   -- t45 := call F14(t44) : 27 [if 19=true]
        refine WL.goff rfl rfl (by decide) ?_   -- t46 := binOp eql 3 t45 c(2:i64) 3 [if 19=true]
        refine WL.val (Y.pick rfl rfl) (by decide) ?_   -- t47 := pick t43 t46 c(false)
        refine WL.val (Y.assign rfl) (by decide) ?_   -- t0 := assign t47
        refine WL.nil ?_
        refine hK10 _ _ ?_; try clear hK10 K10
        refine CW.ret ⟨_, rfl, ?_⟩
        first | exact absurd rfl (by assumption) | exact absurd hg31 (by rw [show bs [97, 98] = ⟨#[97, 98]⟩ from rfl, beq_self_eq_true]; decide) | (simp_all; done)
    · -- t31 = F
      refine WL.goff rfl rfl (by decide) ?_   -- t32 := move t6 [if 7=true]
      refine WL.val (Y.pick rfl rfl) (by decide) ?_   -- t33 := pick t31 t32 c(false)
      refine WL.val (Y.move rfl) (by decide) ?_   -- t34 := move t33
      refine WL.goff rfl rfl (by decide) ?_   -- t35 := move t5 [if 10=true]
      refine WL.val (Y.pick rfl rfl) (by decide) ?_   -- t36 := pick t34 t35 c(false)
      refine WL.val (Y.move rfl) (by decide) ?_   -- t37 := move t36
      refine WL.goff rfl rfl (by decide) ?_   -- t38 := load 49 t4 [if 13=true]
      refine WL.goff rfl rfl (by decide) ?_   -- t39 := load 24 t2 [if 13=true]
      refine WL.goff rfl rfl (by decide) ?_   -- t40 := build 49 [(1,t39), (2,c(2:i64))] [if 13=true]
      refine WL.goff rfl rfl (by decide) ?_   -- t41 := binOp eql 49 t38 t40 49 [if 13=true]
      refine WL.val (Y.pick rfl rfl) (by decide) ?_   -- t42 := pick t37 t41 c(false)
      refine WL.val (Y.move rfl) (by decide) ?_   -- t43 := move t42
      refine WL.goff rfl rfl (by decide) ?_   -- t44 := move t1 [if 19=true]
      refine WL.goff rfl rfl (by decide) ?_   -- t45 := call F14(t44) : 27 [if 19=true]
      refine WL.goff rfl rfl (by decide) ?_   -- t46 := binOp eql 3 t45 c(2:i64) 3 [if 19=true]
      refine WL.val (Y.pick rfl rfl) (by decide) ?_   -- t47 := pick t43 t46 c(false)
      refine WL.val (Y.assign rfl) (by decide) ?_   -- t0 := assign t47
      refine WL.nil ?_
      refine hK10 _ _ ?_; try clear hK10 K10
      refine CW.ret ⟨_, rfl, ?_⟩
      first | exact absurd rfl (by assumption) | exact absurd hg31 (by rw [show bs [97, 98] = ⟨#[97, 98]⟩ from rfl, beq_self_eq_true]; decide) | (simp_all; done)
  · -- t26 = F
    refine WL.goff rfl rfl (by decide) ?_   -- t27 := move t1 [if 2=true]
    refine WL.goff rfl rfl (by decide) ?_   -- t28 := call F15(t27) : 27 [if 2=true]
    refine WL.goff rfl rfl (by decide) ?_   -- t29 := binOp eql 9 t28 c(STR) 9 [if 2=true]
    refine WL.val (Y.pick rfl rfl) (by decide) ?_   -- t30 := pick t26 t29 c(false)
    refine WL.val (Y.move rfl) (by decide) ?_   -- t31 := move t30
    refine WL.goff rfl rfl (by decide) ?_   -- t32 := move t6 [if 7=true]
    refine WL.val (Y.pick rfl rfl) (by decide) ?_   -- t33 := pick t31 t32 c(false)
    refine WL.val (Y.move rfl) (by decide) ?_   -- t34 := move t33
    refine WL.goff rfl rfl (by decide) ?_   -- t35 := move t5 [if 10=true]
    refine WL.val (Y.pick rfl rfl) (by decide) ?_   -- t36 := pick t34 t35 c(false)
    refine WL.val (Y.move rfl) (by decide) ?_   -- t37 := move t36
    refine WL.goff rfl rfl (by decide) ?_   -- t38 := load 49 t4 [if 13=true]
    refine WL.goff rfl rfl (by decide) ?_   -- t39 := load 24 t2 [if 13=true]
    refine WL.goff rfl rfl (by decide) ?_   -- t40 := build 49 [(1,t39), (2,c(2:i64))] [if 13=true]
    refine WL.goff rfl rfl (by decide) ?_   -- t41 := binOp eql 49 t38 t40 49 [if 13=true]
    refine WL.val (Y.pick rfl rfl) (by decide) ?_   -- t42 := pick t37 t41 c(false)
    refine WL.val (Y.move rfl) (by decide) ?_   -- t43 := move t42
    refine WL.goff rfl rfl (by decide) ?_   -- t44 := move t1 [if 19=true]
    refine WL.goff rfl rfl (by decide) ?_   -- t45 := call F14(t44) : 27 [if 19=true]
    refine WL.goff rfl rfl (by decide) ?_   -- t46 := binOp eql 3 t45 c(2:i64) 3 [if 19=true]
    refine WL.val (Y.pick rfl rfl) (by decide) ?_   -- t47 := pick t43 t46 c(false)
    refine WL.val (Y.assign rfl) (by decide) ?_   -- t0 := assign t47
    refine WL.nil ?_
    refine hK10 _ _ ?_; try clear hK10 K10
    refine CW.ret ⟨_, rfl, ?_⟩
    first | exact absurd rfl (by assumption) | exact absurd hg31 (by rw [show bs [97, 98] = ⟨#[97, 98]⟩ from rfl, beq_self_eq_true]; decide) | (simp_all; done)
set_option maxHeartbeats 1000000 in
theorem grown_any (u : Value) (l : List CmV) (w : World) (hl : Cms w u l) : Calls Try.prog 11 #[u] w (Ret fun v w' => ∃ g rb ra ns gr rs av ev_ L T, v = .tuple #[.pointer (some ⟨g, 0, none⟩), .pointer (some ⟨gr, 0, none⟩), .bool true] ∧ GrAt w w' g rb ra ns gr rs av ev_ L T l.length) := by
  obtain ⟨A, m, c, rfl, hm, hmc, hcm, _⟩ := _root_.id hl.sl
  unfold maxLen at hcm
  have hfew := hl.few
  refine calls_of_CW 37 [2, 3, 4] [(0, .slice A m c)] Try.func11 rfl rfl rfl (by simp) args1 ?_
  have hE : Ext w w := Chg.refl
  refine CW.seq fun K1 hK1 => ?_
  refine CW.region ?_   -- region 0
  refine WL.val (Y.assign rfl) (by decide) ?_   -- t2 := assign c(['Go.Value.pointer', 'none'])
  refine WL.val (Y.assign rfl) (by decide) ?_   -- t3 := assign c(['Go.Value.pointer', 'none'])
  refine WL.val (Y.assign rfl) (by decide) ?_   -- t4 := assign c(false)
  refine WL.nil ?_
  refine hK1 _ _ ?_; try clear hK1 K1
  refine CW.seq fun K2 hK2 => ?_
  refine CW.region ?_   -- region 1
  refine WL.call Try.func30 rfl rfl rfl (fnew_any _) (by simp) ?_; rintro v9 w1 hR1   -- t9 := call F30() : 
  obtain ⟨g, rb, ra, gn, rfl, hn1, hn2, hn3, hn4, hT, hx1⟩ := hR1
  have hz1 := hx1.size
  have hE := hE.thenExt hx1
  refine WL.val (Y.assign rfl) (by decide) ?_   -- t5 := assign t9
  refine WL.nil ?_
  refine hK2 _ _ ?_; try clear hK2 K2
  refine CW.seq fun K3 hK3 => ?_
  refine CW.region ?_   -- region 2
  refine WL.call Try.func31 rfl rfl rfl (rnew_any _) (by simp) ?_; rintro v10 w2 hR2   -- t10 := call F31() : 
  obtain ⟨gr, ev0, rfl, hg0, hev0, hRt, hx2⟩ := hR2
  have hz2 := hx2.size
  have hE := hE.thenExt hx2
  have hA : GrAt w w2 g rb ra (newN gn) gr [⟨El.root, .slice none 0 0, .slice none 0 0⟩] (.slice none 0 0) ev0 [] Tr.new 0 := {
    ft := hT.ext hx2
    fe := rfl
    rt := hRt
    re := rfl
    ok := treeOk_new
    few := Nat.le_refl _
    fnew := fun q hq => by have := hq.ofNew; omega
    rnew := fun q hq => by
      have h1 : w1.heap.size ≤ q := by
        rcases hq with h | h | h | ⟨x, hx, s, h⟩
        · omega
        · simp [Value.ownBlock] at h
        · exact hev0 q h
        · simp at hx; subst hx; cases s <;> simp [Rn.sv, Value.ownBlock] at h
      exact ⟨by omega, fun h => by have := hT.lt h; omega⟩
    ext := hE }
  refine WL.val (Y.assign rfl) (by decide) ?_   -- t6 := assign t10
  refine WL.nil ?_
  refine hK3 _ _ ?_; try clear hK3 K3
  refine CW.seq fun K4 hK4 => ?_
  refine CW.seq fun K5 hK5 => ?_
  refine CW.region ?_   -- region 3
  refine WL.val (Y.move rfl) (by decide) ?_   -- t11 := move t5
  refine WL.val (Y.eql_fugueTree rfl rfl) (by decide) ?_   -- t12 := binOp eql 27 t11 c(['Go.Value.pointer', 'none']) 27
  refine WL.nil ?_
  refine hK5 _ _ ?_; try clear hK5 K5
  first | refine CW.condD rfl (fun ht6 => ?_) (fun ht6 => ?_) | refine CW.condND rfl (fun ht6 => ?_) (fun ht6 => ?_) | refine CW.condN rfl (fun ht6 => ?_) (fun ht6 => ?_) | refine CW.cond rfl (fun ht6 => ?_) (fun ht6 => ?_)
  · -- then
    refine CW.seq fun K7 hK7 => ?_
    refine CW.region ?_   -- region 4
    refine WL.val (Y.assign rfl) (by decide) ?_   -- t2 := assign c(['Go.Value.pointer', 'none'])
    refine WL.val (Y.assign rfl) (by decide) ?_   -- t3 := assign c(['Go.Value.pointer', 'none'])
    refine WL.val (Y.assign rfl) (by decide) ?_   -- t4 := assign c(false)
    refine WL.nil ?_
    refine hK7 _ _ ?_; try clear hK7 K7
    refine CW.ret ⟨_, rfl, ?_⟩
    simp_all
  -- else
  refine CW.skip ?_
  refine hK4 _ _ ?_; try clear hK4 K4
  refine CW.seq fun K8 hK8 => ?_
  refine CW.seq fun K9 hK9 => ?_
  refine CW.region ?_   -- region 5
  refine WL.val (Y.move rfl) (by decide) ?_   -- t13 := move t0
  refine WL.val (Y.len_slice Try.underlying22 rfl) (by decide) ?_   -- t14 := call len(t13) : 22
  refine WL.val (Y.move rfl) (by decide) ?_   -- t15 := move c(0:i64)
  refine WL.nil ?_
  refine hK9 _ _ ?_; try clear hK9 K9
  refine CW.block ?_   -- block 0
  refine CW.loop (X := Nat × List Nn × List Rn × Value × Value × Coms × Tr) (fun x => [(5, .pointer (some ⟨g, 0, none⟩)), (6, .pointer (some ⟨gr, 0, none⟩)), (13, .slice A m c), (14, .int .i64 (m : Int)), (15, .int .i64 (x.1 : Int))]) (fun x w0 => x.1 ≤ m ∧ GrAt w w0 g rb ra x.2.1 gr x.2.2.1 x.2.2.2.1 x.2.2.2.2.1 x.2.2.2.2.2.1 x.2.2.2.2.2.2 x.1) (fun x => m - x.1) (0, newN gn, [⟨El.root, .slice none 0 0, .slice none 0 0⟩], .slice none 0 0, ev0, [], Tr.new) (by repeat (first | exact Fr.le.nil | refine Fr.le.cons rfl ?_)) ⟨Nat.zero_le _, hA⟩ ?_
  intro x w3 hl3
  obtain ⟨k, ns, rs, av, ev_, L, T⟩ := x
  dsimp only at hl3 ⊢
  obtain ⟨hkm, hA⟩ := hl3
  have hE : Ext w w3 := hA.ext
  have hzl := hE.size
  refine CW.seq fun K10 hK10 => ?_
  refine CW.region ?_   -- region 6
  refine WL.val (Y.lss rfl rfl) (by decide) ?_   -- t16 := binOp lss 3 t15 t14 3
  refine WL.nil ?_
  refine hK10 _ _ ?_; try clear hK10 K10
  refine CW.seq fun K11 hK11 => ?_
  first | refine CW.condD rfl (fun ht12 => ?_) (fun ht12 => ?_) | refine CW.condND rfl (fun ht12 => ?_) (fun ht12 => ?_) | refine CW.condN rfl (fun ht12 => ?_) (fun ht12 => ?_) | refine CW.cond rfl (fun ht12 => ?_) (fun ht12 => ?_)
  · -- then
    refine CW.skip ?_
    refine hK11 _ _ ?_; try clear hK11 K11
    refine CW.seq fun K13 hK13 => ?_
    refine CW.block ?_   -- block 1
    refine CW.seq fun K14 hK14 => ?_
    obtain ⟨y, hy⟩ : ∃ y, l[k]? = some y := ⟨_, List.getElem?_eq_getElem (by omega)⟩
    have hym := List.mem_of_getElem? hy
    obtain ⟨aa, rfl, hmy⟩ := (hl.ext hE).sl.get hy
    refine CW.region ?_   -- region 7
    refine WL.val (Y.indexAddrN Try.underlying22 rfl rfl sz0_recensionlaw08Commit (by omega)) (by decide) ?_   -- t17 := indexAddr 22 t13 t15
    refine WL.val (Y.load Try.underlying42 rfl hmy (sz_recensionlaw08Commit _) rfl) (by decide) ?_   -- t18 := load 42 t17
    refine as_recensionlaw08Commit rfl (by simp) (by decide) fun g8 w4 hx4 hg8 hB8 => ?_   -- alloc 42; store 42 t8 t18
    have hlt8 := hB8.lt; have hz4 := hx4.size
    have hM8 := hB8.mem; have hz4 := hx4.size; have hE := hE.thenExt hx4
    refine WL.nil ?_
    refine hK14 _ _ ?_; try clear hK14 K14
    refine CW.seq fun K15 hK15 => ?_
    refine CW.held (fun wq => Chg (fun q => Fp g rb ra ns q ∨ Rp gr rs av ev_ q) w4 wq) (by kernel_rfl) 15 rfl fun w5 hx5 => ?_
    have hS : Chg (fun q => Fp g rb ra ns q ∨ Rp gr rs av ev_ q) w4 w5 := Ext.chg hx5
    have hz5 := hx5.size
    have hF : Ext w3 w5 := hx4.thenExt hx5
    have hE := hE.thenExt hx5
    have h8n : ¬ (Fp g rb ra ns g8 ∨ Rp gr rs av ev_ g8) := fun h => by
      rcases h with h | h
      · have := hA.ft.lt h; omega
      · have := hA.rt.lt h; omega
    refine RH.take 0 (fun _ _ _ _ h => h) (by kernel_rfl) hS rfl (by kernel_rfl) (by kernel_rfl) (fun wq hq => Y.move rfl) (by decide) ?_   -- t19 := move t5
    refine RH.take 1 (fun _ _ _ _ h => h) (by kernel_rfl) hS rfl (by kernel_rfl) (by kernel_rfl) (fun wq hq => Y.fieldAddr fo_recensionlaw08Commit0 rfl) (by decide) ?_   -- t20 := fieldAddr 42 t8 0
    refine RH.take 2 (fun _ _ _ _ h => h) (by kernel_rfl) hS rfl (by kernel_rfl) (by kernel_rfl) (fun wq hq => Y.load Try.underlying24 rfl (hB8.chg hq h8n).mem.recensionlaw08Commit0 (sz_apiDigest _) rfl) (by decide) ?_   -- t21 := load 24 t20
    refine RH.take 4 (fun _ _ _ _ h => h) (by kernel_rfl) hS rfl (by kernel_rfl) (by kernel_rfl) (fun wq hq => Y.fieldAddr fo_recensionlaw08Commit1 rfl) (by decide) ?_   -- t23 := fieldAddr 42 t8 1
    refine RH.take 5 (fun _ _ _ _ h => h) (by kernel_rfl) hS rfl (by kernel_rfl) (by kernel_rfl) (fun wq hq => Y.load1 Try.underlying35 rfl (hB8.chg hq h8n).mem.recensionlaw08Commit1 rfl) (by decide) ?_   -- t24 := load 35 t23
    refine RH.take 8 (fun _ _ _ _ h => h) (by kernel_rfl) hS rfl (by kernel_rfl) (by kernel_rfl) (fun wq hq => Y.move rfl) (by decide) ?_   -- t27 := move t6
    refine RH.take 9 (fun _ _ _ _ h => h) (by kernel_rfl) hS rfl (by kernel_rfl) (by kernel_rfl) (fun wq hq => Y.fieldAddr fo_recensionlaw08Commit0 rfl) (by decide) ?_   -- t28 := fieldAddr 42 t8 0
    refine RH.take 10 (fun _ _ _ _ h => h) (by kernel_rfl) hS rfl (by kernel_rfl) (by kernel_rfl) (fun wq hq => Y.load Try.underlying24 rfl (hB8.chg hq h8n).mem.recensionlaw08Commit0 (sz_apiDigest _) rfl) (by decide) ?_   -- t29 := load 24 t28
    refine RH.take 11 (fun _ _ _ _ h => h) (by kernel_rfl) hS rfl (by kernel_rfl) (by kernel_rfl) (fun wq hq => Y.fieldAddr fo_recensionlaw08Commit1 rfl) (by decide) ?_   -- t30 := fieldAddr 42 t8 1
    refine RH.take 12 (fun _ _ _ _ h => h) (by kernel_rfl) hS rfl (by kernel_rfl) (by kernel_rfl) (fun wq hq => Y.load1 Try.underlying35 rfl (hB8.chg hq h8n).mem.recensionlaw08Commit1 rfl) (by decide) ?_   -- t31 := load 35 t30
    refine RH.one 3 (by kernel_rfl) ?_
    refine RS.st rfl (St.buildSlice0 Try.underlying35 sz0_apiOp) (by decide) fun v22 w6 hR6 => ?_   -- buildSlice 35 0 []
    obtain ⟨gb, rfl, hgb, hOb, hx6⟩ := hR6
    have hz6 := hx6.size
    have hS := hS.thenExt hx6
    have hE := hE.thenExt hx6
    have hF := hF.thenExt hx6
    refine ⟨hS, ?_⟩
    refine RH.one 6 (by kernel_rfl) ?_
    refine RS.st rfl (St.append (news := (y.ops.map opC).flatten) Try.underlying35 Try.underlying35 ai_op rfl rfl hOb (Sl.src opC_length ((hl.ops y hym).ext hE)) one_ops (by have := hl.fit y hym; simp only [List.length_nil]; omega)) (by decide) fun v25 w7 hR7 => ?_   -- call append(t22, t24) : 35,35
    obtain ⟨hO7, hc7, hf7⟩ := hR7
    have hz7 := hc7.size
    rw [List.nil_append] at hO7
    have hgbo : ∀ q, (Value.slice (some ⟨gb, 0, none⟩) 0 0).ownBlock = some q → q = gb := fun q h => by
      injection h with h
      exact h.symm
    have hS : Chg (fun q => Fp g rb ra ns q ∨ Rp gr rs av ev_ q) w4 w7 := hS.stepO hc7 (fun q hq => .inr (by have := hgbo q hq; omega))
    have hE := hE.step hc7 (fun q hq => by have := hgbo q hq; omega)
    have hF := hF.step hc7 (fun q hq => by have := hgbo q hq; omega)
    have hsl7 := hO7.sl opC_length (by decide)
    have hf7 : ∀ q, v25.ownBlock = some q → w5.heap.size ≤ q := fun q hq => by
      rcases hf7 with h | h
      · rw [h] at hq; have := hgbo q hq; omega
      · have := h q hq; omega
    refine ⟨hS, ?_⟩
    refine RH.one 7 (by kernel_rfl) ?_
    refine RS.call rfl (fun _ _ h => by cases h) Try.func17 rfl rfl rfl (fadd_any g rb ra T.ad ns y.id _ y.ops L _ (hA.ft.ext hF) (by rw [hA.fe]; exact hA.ok) hsl7 (fun _ q hq => ⟨hO7.lt q hq, fun h => by have h1 := hA.ft.lt h; have h2 := hf7 q hq; omega⟩)) (by decide) fun v26 w8 hR8 => ?_   -- call F17(t19, t21, t25) : 27,24,35
    obtain ⟨rfl, ns2, hT8, he8, hc8, hf8, _⟩ := hR8
    have hz8 := hc8.size
    have hS : Chg (fun q => Fp g rb ra ns q ∨ Rp gr rs av ev_ q) w4 w8 := hS.trans hc8 (fun q _ h => .inl h)
    have hR8 : RtAt w8 gr T.ad rs av ev_ := (hA.rt.ext hF).chg hc8 (fun q hq h => (hA.rnew q hq).2 h)
    have hyo : y.ops ≠ [] → ∀ q, y.pv.ownBlock = some q → q < w.heap.size := fun h0 => (hl.ops y hym).own_lt opC_ne h0
    have hl8 : Sl w8 opC 37 y.pv y.ops := ((hl.ops y hym).ext hE).chgN hc8 (fun h0 q hq h => by have h1 := hyo h0 q hq; have h2 := hA.fnew q h; omega)
    refine ⟨hS, ?_⟩
    refine RH.one 13 (by kernel_rfl) ?_
    refine RS.call rfl (fun _ _ h => by cases h) Try.func33 rfl rfl rfl (radd_any gr T.ad rs av ev_ y.id _ y.ops L _ hR8 (by rw [hA.re]; exact hA.ok) (by have := hA.few; omega) hl8 (fun h0 q hq => by have h1 := hyo h0 q hq; exact ⟨by omega, fun h => by have h2 := (hA.rnew q h).1; omega⟩)) (by decide) fun v32 w9 hR9 => ?_   -- call F33(t27, t29, t31) : 28,24,35
    obtain ⟨rfl, rs2, av2, ev2, hT9, he9, hc9, hf9⟩ := hR9
    have hz9 := hc9.size
    have hS : Chg (fun q => Fp g rb ra ns q ∨ Rp gr rs av ev_ q) w4 w9 := hS.trans hc9 (fun q _ h => .inr h)
    have hsame : wrongC ⟨T.ad, Fw.els ns⟩ y.id y.ops = wrongC ⟨T.ad, rels rs⟩ y.id y.ops := by rw [hA.fe, hA.re]
    rw [hA.fe] at hT8 he8
    rw [hA.re] at hT9 he9
    have hzF := hF.size
    obtain ⟨L2, hok2, _⟩ := hA.ok.addT y.id y.ops
    have hA2 : GrAt w w9 g rb ra ns2 gr rs2 av2 ev2 L2 (addT T y.id y.ops) (k + 1) := {
      ft := hT8.chg hc9 (fun q hq h => by
        rcases hf8 q hq with h1 | h1
        · exact (hA.rnew q h).2 h1
        · have := hA.rt.lt h; omega)
      fe := he8
      rt := hT9
      re := he9
      ok := hok2
      few := addT_few hA.few
      fnew := fun q hq => by
        rcases hf8 q hq with h1 | h1
        · exact hA.fnew q h1
        · omega
      rnew := fun q hq => by
        rcases hf9 q hq with h1 | h1
        · refine ⟨(hA.rnew q h1).1, fun h => ?_⟩
          rcases hf8 q h with h2 | h2
          · exact (hA.rnew q h1).2 h2
          · have := hA.rt.lt h1; omega
        · exact ⟨by omega, fun h => by have := hT8.lt h; omega⟩
      ext := (hE.step hc8 (fun q hq => hA.fnew q hq)).step hc9 (fun q hq => (hA.rnew q hq).1) }
    refine ⟨hS, ?_⟩
    refine RH.take 14 (fun _ _ _ _ h => h) (by kernel_rfl) hS rfl (by kernel_rfl) (by kernel_rfl) (fun wq hq => Y.neq rfl rfl) (by decide) ?_   -- t33 := binOp neq 3 t26 t32 3
    refine RH.done (by kernel_rfl) ?_
    skip
    refine hK15 _ _ ?_; try clear hK15 K15
    first | refine CW.condD rfl (fun ht16 => ?_) (fun ht16 => ?_) | refine CW.condND rfl (fun ht16 => ?_) (fun ht16 => ?_) | refine CW.condN rfl (fun ht16 => ?_) (fun ht16 => ?_) | refine CW.cond rfl (fun ht16 => ?_) (fun ht16 => ?_)
    · -- then
      refine CW.seq fun K17 hK17 => ?_
      refine CW.region ?_   -- region 9
      refine WL.val (Y.assign rfl) (by decide) ?_   -- t2 := assign c(['Go.Value.pointer', 'none'])
      refine WL.val (Y.assign rfl) (by decide) ?_   -- t3 := assign c(['Go.Value.pointer', 'none'])
      refine WL.val (Y.assign rfl) (by decide) ?_   -- t4 := assign c(false)
      refine WL.nil ?_
      refine hK17 _ _ ?_; try clear hK17 K17
      refine CW.ret ⟨_, rfl, ?_⟩
      exact absurd hsame (by assumption)
    -- else
    refine CW.skip ?_
    refine hK13 _ _ ?_; try clear hK13 K13
    refine CW.region ?_   -- region 10
    refine WL.val (Y.add rfl rfl ⟨by omega, by omega⟩) (by decide) ?_   -- t34 := binOp add 3 t15 c(1:i64) 3
    refine WL.val (Y.move rfl) (by decide) ?_   -- t15 := move t34
    refine WL.nil ?_
    exact ⟨(k + 1, ns2, rs2, av2, ev2, L2, addT T y.id y.ops), (by show m - (k + 1) < m - k; omega), (by repeat (first | exact Fr.le.nil | refine Fr.le.cons rfl ?_)), (by show k + 1 ≤ m; omega), hA2⟩
  -- else
  refine CW.exit ?_   -- exit 0
  refine hK8 _ _ ?_; try clear hK8 K8
  refine CW.seq fun K18 hK18 => ?_
  refine CW.region ?_   -- region 11
  refine WL.val (Y.move rfl) (by decide) ?_   -- t35 := move t5
  refine WL.val (Y.move rfl) (by decide) ?_   -- t36 := move t6
  refine WL.val (Y.assign rfl) (by decide) ?_   -- t2 := assign t35
  refine WL.val (Y.assign rfl) (by decide) ?_   -- t3 := assign t36
  refine WL.val (Y.assign rfl) (by decide) ?_   -- t4 := assign c(true)
  refine WL.nil ?_
  refine hK18 _ _ ?_; try clear hK18 K18
  refine CW.ret ⟨_, rfl, ?_⟩
  have hkl : k = l.length := by omega
  rw [hkl] at hA
  exact ⟨g, rb, ra, ns, gr, rs, av, ev_, L, T, rfl, hA⟩
end Go.Proofs.Ytffkmlkdlhkkmaa
