/- The law's functions: commits, alive, Grown, place, walked. No condition. -/
import Derived.Test.YtmndofgagngcgaaFc
import Derived.Test.YtmndofgagngcgaaQv
import Derived.Test.YtmndofgagngcgaaG4
set_option linter.unusedSimpArgs false
set_option linter.unusedVariables false
namespace Go.Fw
open Go.Fu Go.Pl
/-- A commit as it lies: its operations' slice. -/
structure CmV where
  id : Dig
  ops : List OpD
  A : Option Addr
  c : Nat
abbrev CmV.pv (x : CmV) : Value := .slice x.A x.ops.length x.c
def cmC (x : CmV) : List Value := digC x.id ++ [x.pv]
theorem cmC_length (x : CmV) : (cmC x).length = 33 := by simp [cmC, digC_length]
abbrev cmV (x : CmV) : Value := .agg (cmC x).toArray
theorem one_cmC {x : CmV} : ∀ u ∈ cmC x, u.oneCell' = true := by
  intro u hu
  simp only [cmC, List.mem_append, List.mem_singleton] at hu
  rcases hu with hu | rfl
  · exact one_digC u hu
  · rfl
def CmV.zero : CmV := ⟨Dig.zero, [], none, 0⟩
section
variable {w : World} {a : Addr} {x : CmV}
theorem Mem.recensionlaw08Commit0 (h : Mem w a (cmC x)) : Mem w (a.add 0) (digC x.id) := h.sub 0 fun j v hj => by
  have hlt : j < (digC x.id).length := (List.getElem?_eq_some_iff.1 hj).1
  rw [Nat.zero_add, cmC, List.getElem?_append_left hlt]
  exact hj
theorem Mem.recensionlaw08Commit1 (h : Mem w a (cmC x)) : w.cell? (a.add 32) = some (.slice x.A x.ops.length x.c) := h.cell 32 (by
  rw [cmC, List.getElem?_append_right (by rw [digC_length]; omega), digC_length]
  rfl)
end
/-- A list of commits in memory. -/
structure Cms (w : World) (u : Value) (l : List CmV) : Prop where
  sl : Sl w cmC 33 u l
  ops : ∀ x ∈ l, Sl w opC 37 x.pv x.ops
  fit : ∀ x ∈ l, x.ops.length * 72 ≤ 140737488355328
  few : l.length < 4398046511104
theorem Cms.ext {w w' : World} {u : Value} {l : List CmV} (h : Cms w u l) (hc : Ext w w') : Cms w' u l := ⟨h.sl.ext hc, fun x hx => (h.ops x hx).ext hc, h.fit, h.few⟩
theorem Sl.own_lt {α : Type} {w : World} {enc : α → List Value} {k : Nat} {v : Value} {xs : List α} (h : Sl w enc k v xs) (he : ∀ x, enc x ≠ []) (hx : xs ≠ []) : ∀ b, v.ownBlock = some b → b < w.heap.size := by
  obtain ⟨A, m, c, rfl, _, _, _, hg⟩ := h
  cases xs with
  | nil => exact absurd rfl hx
  | cons y r =>
    obtain ⟨a, rfl, hm⟩ := hg 0 y rfl
    intro b hb
    have h1 := hm.lt (he y)
    simp [Value.ownBlock] at hb
    have h2 : (a.add (0 * k)).block = a.block := by unfold Addr.add; split <;> rfl
    rw [h2] at h1
    omega
theorem run_bsK2 {P : Program} {t e : TypeId} {ie : TypeInfo} {z : Value} {a b : Value} {xs ys : List Value} (hu : P.underlying t = some (.slice e)) (hi : P.info? e = some ie) (hz : ie.zero = some z) (h0 : 0 < ie.size) (hsm : ie.size * 2 ≤ 16777216) (ha : a.cells = xs.toArray) (hb : b.cells = ys.toArray) (hla : xs.length = ie.size) (hlb : ys.length = ie.size) (w : World) :
    (Instr.buildSlice t 2 [(0, a), (1, b)].toArray).run P w = .ok (.slice (some ⟨w.heap.size, 0, none⟩) 2 2) (w.alloc (.cells (xs ++ ys).toArray e)) := by
  refine run_buildSlice w t e 2 _ _ ie z hu hi hz (by omega) (by omega) ?_
  have h := Go.Great.fill_whole (s := ie.size) h0 [a, b] ((Array.range (2 * ie.size)).map (z.cells[· % z.cells.size]!)) (by intro u hu; simp at hu; rcases hu with rfl | rfl <;> simp [*]) (by simp)
  simpa [ha, hb] using h
end Go.Fw
namespace Go.Proofs.Ytmndofgagngcgaa
open Go.RowKit Go.Fw Go.Fu Go.Pl
abbrev TCm : TypeId := 70
theorem sz0_recensionlaw08Commit : (Try.prog.info? TCm).map (·.size) = some 33 := by kernel_rfl
theorem sz_recensionlaw08Commit (x : CmV) : (Try.prog.info? TCm).map (·.size) = some (cmC x).length := by rw [cmC_length]; exact sz0_recensionlaw08Commit
theorem sz_sOp8 : (Try.prog.info? 27).map (·.size) = some 1 := by kernel_rfl
theorem fo_recensionlaw08Commit0 : FieldOff Try.prog TCm 0 0 := ⟨_, _, 32, Try.underlying70, rfl, sz_dig, by decide, rfl⟩
theorem fo_recensionlaw08Commit1 : FieldOff Try.prog TCm 1 32 := ⟨_, _, 1, Try.underlying70, rfl, sz_sOp8, by decide, rfl⟩
theorem info_cm : ∃ i : TypeInfo, Try.prog.info? TCm = some i ∧ i.zero = some (cmV CmV.zero) ∧ i.size = 33 := by
  have h : (Try.prog.info? TCm).map (fun i => (i.zero, i.size)) = some (some (cmV CmV.zero), 33) := by kernel_rfl
  cases hi : Try.prog.info? TCm with
  | none => simp [hi] at h
  | some i => simp [hi] at h; exact ⟨i, rfl, h.1, h.2⟩
theorem as_recensionlaw08Commit {n : NN} {Φ : Exit → Fr → World → Prop} {fr : Fr} {w : World} {ops : Array Oper} {rest : List Oper} {d : Nat} {x : Operand} {ty ty' : TypeId} {pos pos' : String} {aft aft' : Array Edge} {v : CmV}
    (hx : ev fr x = some (.agg (cmC v).toArray)) (hxd : x ≠ .tmp d) (hd : d < n.1)
    (h : ∀ g w', Ext w w' → w.heap.size ≤ g → Blk w' g TCm (cmC v) → WL Try.prog ops n Φ rest ((d, .pointer (some ⟨g, 0, none⟩)) :: fr) w') :
    WL Try.prog ops n Φ (⟨some d, .alloc TCm, ty, pos, aft, none⟩ :: ⟨none, .store TCm (.tmp d) x, ty', pos', aft', none⟩ :: rest) fr w := by
  obtain ⟨i, hi, hz, hs⟩ := info_cm
  exact WL.allocStore (zs := cmC CmV.zero) hi hz rfl (by rw [hs, cmC_length]) (by rw [cmC_length, cmC_length]) hx hxd rfl one_cmC hd h
theorem bs2_op (x y : OpD) (w : World) : (Instr.buildSlice 27 2 [(0, opV x), (1, opV y)].toArray).run Try.prog w = .ok (.slice (some ⟨w.heap.size, 0, none⟩) 2 2) (w.alloc (.cells (opC x ++ opC y).toArray 93)) := by
  obtain ⟨i, z, hi, hz, hk, _⟩ := ai_op
  exact run_bsK2 Try.underlying27 hi hz (by omega) (by omega) rfl rfl (by rw [opC_length, hk]) (by rw [opC_length, hk]) w
theorem build_D1 (w : World) : (Instr.build TD8 [(0, Value.int .u8 1)].toArray).run Try.prog w = .ok (.agg (digC D1).toArray) w := run_build w _ _ _ (by kernel_rfl)
theorem build_opA (w : World) : (Instr.build 93 [(0, Value.int .i64 1), (3, Value.int .u8 97)].toArray).run Try.prog w = .ok (.agg (opC ⟨1, false, RefD.zero, 97⟩).toArray) w := run_build w _ _ _ (by kernel_rfl)
theorem build_refO (w : World) : (Instr.build 61 [(0, Value.bool true), (2, Value.int .i64 1)].toArray).run Try.prog w = .ok (.agg (refC ⟨true, Dig.zero, 1⟩).toArray) w := run_build w _ _ _ (by kernel_rfl)
theorem build_opB (w : World) : (Instr.build 93 [(0, Value.int .i64 1), (3, Value.int .u8 98), (2, .agg (refC ⟨true, Dig.zero, 1⟩).toArray)].toArray).run Try.prog w = .ok (.agg (opC ⟨1, false, ⟨true, Dig.zero, 1⟩, 98⟩).toArray) w := run_build w _ _ _ (by kernel_rfl)
theorem Blk.own {w : World} {g k m : Nat} {t : TypeId} {cs : List Value} (h : Blk w g t cs) (hl : cs.length = m * k) (hm : m ≤ maxLen) : Own w t k (.slice (some ⟨g, 0, none⟩) m m) cs := .inr ⟨g, m, m, [], (0, 0), rfl, (by have h9 : w.heap[g]? = _ := h; simpa using h9), by simp [hl], by omega, hm, by simp [hl], fun o _ => by simp⟩
theorem Fp.ofNew {g rb ra gn q : Nat} (h : Fp g rb ra (newN gn) q) : q = g ∨ q = rb ∨ q = ra ∨ q = gn := by
  rcases h with h | h | h | ⟨x, hx, h⟩
  · exact .inl h
  · exact .inr (.inl h)
  · exact .inr (.inr (.inl h))
  · simp [newN] at hx
    subst hx
    rcases h with h | ⟨s, h⟩
    · exact .inr (.inr (.inr h))
    · cases s <;> simp [Nn.sv, Value.ownBlock] at h
theorem one_ops {l : List OpD} : ∀ u ∈ (l.map opC).flatten, u.oneCell' = true := by
  intro u hu
  obtain ⟨cs, hcs, hu⟩ := List.mem_flatten.1 hu
  obtain ⟨x, _, rfl⟩ := List.mem_map.1 hcs
  exact one_opC u hu
theorem addT_few {T : Tr} {id : Dig} {ops : List OpD} {n : Nat} (h : T.ad.length ≤ n) : (addT T id ops).ad.length ≤ n + 1 := by
  unfold addT
  split
  · simp; omega
  · omega
theorem opC_ne (x : OpD) : opC x ≠ [] := fun h => by have := opC_length x; rw [h] at this; cases this
/-- Both trees, as commits made them. -/
structure GrAt (w w0 : World) (g rb ra : Nat) (ns : List Nn) (gr : Nat) (rs : List Rn) (av ev_ : Value) (L : Coms) (T : Tr) (n : Nat) : Prop where
  ft : FtAt w0 g rb ra T.ad ns
  fe : Fw.els ns = T.e
  rt : RtAt w0 gr T.ad rs av ev_
  re : rels rs = T.e
  ok : TreeOk L T
  few : T.ad.length ≤ n
  fnew : ∀ q, Fp g rb ra ns q → w.heap.size ≤ q
  rnew : ∀ q, Rp gr rs av ev_ q → w.heap.size ≤ q ∧ ¬ Fp g rb ra ns q
  ext : Ext w w0

set_option maxHeartbeats 1000000 in
theorem grown_any (u : Value) (l : List CmV) (w : World) (hl : Cms w u l) : Calls Try.prog 10 #[u] w (Ret fun v w' => ∃ g rb ra ns gr rs av ev_ L T, v = .tuple #[.pointer (some ⟨g, 0, none⟩), .pointer (some ⟨gr, 0, none⟩), .bool true] ∧ GrAt w w' g rb ra ns gr rs av ev_ L T l.length) := by
  obtain ⟨A, m, c, rfl, hm, hmc, hcm, _⟩ := _root_.id hl.sl
  unfold maxLen at hcm
  have hfew := hl.few
  refine calls_of_CW 37 [2, 3, 4] [(0, .slice A m c)] Try.func10 rfl rfl rfl (by simp) args1 ?_
  have hE : Ext w w := Chg.refl
  refine CW.seq fun K1 hK1 => ?_
  refine CW.region ?_
  refine WL.val (Y.assign rfl) (by decide) ?_
  refine WL.val (Y.assign rfl) (by decide) ?_
  refine WL.val (Y.assign rfl) (by decide) ?_
  refine WL.nil ?_
  refine hK1 _ _ ?_; try clear hK1 K1
  refine CW.seq fun K2 hK2 => ?_
  refine CW.region ?_
  refine WL.call Try.func26 rfl rfl rfl (fnew_any _) (by simp) ?_; rintro v9 w1 hR1
  obtain ⟨g, rb, ra, gn, rfl, hn1, hn2, hn3, hn4, hT, hx1⟩ := hR1
  have hz1 := hx1.size
  have hE := hE.thenExt hx1
  refine WL.val (Y.assign rfl) (by decide) ?_
  refine WL.nil ?_
  refine hK2 _ _ ?_; try clear hK2 K2
  refine CW.seq fun K3 hK3 => ?_
  refine CW.region ?_
  refine WL.call Try.func27 rfl rfl rfl (rnew_any _) (by simp) ?_; rintro v10 w2 hR2
  obtain ⟨gr, ev0, rfl, hg0, hev0, hRt, hx2⟩ := hR2
  have hz2 := hx2.size
  have hE := hE.thenExt hx2
  have hA : GrAt w w2 g rb ra (newN gn) gr [⟨El.root, .slice none 0 0, .slice none 0 0⟩] (.slice none 0 0) ev0 [] Tr.new 0 := {
    ft := hT.ext hx2
    fe := rfl
    rt := hRt
    re := rfl
    ok := treeOk_new
    few := Nat.le_refl _
    fnew := fun q hq => by have := hq.ofNew; omega
    rnew := fun q hq => by
      have h1 : w1.heap.size ≤ q := by
        rcases hq with h | h | h | ⟨x, hx, s, h⟩
        · omega
        · simp [Value.ownBlock] at h
        · exact hev0 q h
        · simp at hx; subst hx; cases s <;> simp [Rn.sv, Value.ownBlock] at h
      exact ⟨by omega, fun h => by have := hT.lt h; omega⟩
    ext := hE }
  refine WL.val (Y.assign rfl) (by decide) ?_
  refine WL.nil ?_
  refine hK3 _ _ ?_; try clear hK3 K3
  refine CW.seq fun K4 hK4 => ?_
  refine CW.seq fun K5 hK5 => ?_
  refine CW.region ?_
  refine WL.val (Y.move rfl) (by decide) ?_
  refine WL.val (Y.eql_fugueTree rfl rfl) (by decide) ?_
  refine WL.nil ?_
  refine hK5 _ _ ?_; try clear hK5 K5
  first | refine CW.condD rfl (fun ht6 => ?_) (fun ht6 => ?_) | refine CW.condND rfl (fun ht6 => ?_) (fun ht6 => ?_) | refine CW.condN rfl (fun ht6 => ?_) (fun ht6 => ?_) | refine CW.cond rfl (fun ht6 => ?_) (fun ht6 => ?_)
  · -- then
    refine CW.seq fun K7 hK7 => ?_
    refine CW.region ?_
    refine WL.val (Y.assign rfl) (by decide) ?_
    refine WL.val (Y.assign rfl) (by decide) ?_
    refine WL.val (Y.assign rfl) (by decide) ?_
    refine WL.nil ?_
    refine hK7 _ _ ?_; try clear hK7 K7
    refine CW.ret ⟨_, rfl, ?_⟩
    simp_all
  refine CW.skip ?_
  refine hK4 _ _ ?_; try clear hK4 K4
  refine CW.seq fun K8 hK8 => ?_
  refine CW.seq fun K9 hK9 => ?_
  refine CW.region ?_
  refine WL.val (Y.move rfl) (by decide) ?_
  refine WL.val (Y.len_slice Try.underlying22 rfl) (by decide) ?_
  refine WL.val (Y.move rfl) (by decide) ?_
  refine WL.nil ?_
  refine hK9 _ _ ?_; try clear hK9 K9
  refine CW.block ?_
  refine CW.loop (X := Nat × List Nn × List Rn × Value × Value × Coms × Tr) (fun x => [(5, .pointer (some ⟨g, 0, none⟩)), (6, .pointer (some ⟨gr, 0, none⟩)), (13, .slice A m c), (14, .int .i64 (m : Int)), (15, .int .i64 (x.1 : Int))]) (fun x w0 => x.1 ≤ m ∧ GrAt w w0 g rb ra x.2.1 gr x.2.2.1 x.2.2.2.1 x.2.2.2.2.1 x.2.2.2.2.2.1 x.2.2.2.2.2.2 x.1) (fun x => m - x.1) (0, newN gn, [⟨El.root, .slice none 0 0, .slice none 0 0⟩], .slice none 0 0, ev0, [], Tr.new) (by repeat (first | exact Fr.le.nil | refine Fr.le.cons rfl ?_)) ⟨Nat.zero_le _, hA⟩ ?_
  intro x w3 hl3
  obtain ⟨k, ns, rs, av, ev_, L, T⟩ := x
  dsimp only at hl3 ⊢
  obtain ⟨hkm, hA⟩ := hl3
  have hE : Ext w w3 := hA.ext
  have hzl := hE.size
  refine CW.seq fun K10 hK10 => ?_
  refine CW.region ?_
  refine WL.val (Y.lss rfl rfl) (by decide) ?_
  refine WL.nil ?_
  refine hK10 _ _ ?_; try clear hK10 K10
  refine CW.seq fun K11 hK11 => ?_
  first | refine CW.condD rfl (fun ht12 => ?_) (fun ht12 => ?_) | refine CW.condND rfl (fun ht12 => ?_) (fun ht12 => ?_) | refine CW.condN rfl (fun ht12 => ?_) (fun ht12 => ?_) | refine CW.cond rfl (fun ht12 => ?_) (fun ht12 => ?_)
  · -- then
    refine CW.skip ?_
    refine hK11 _ _ ?_; try clear hK11 K11
    refine CW.seq fun K13 hK13 => ?_
    refine CW.block ?_
    refine CW.seq fun K14 hK14 => ?_
    obtain ⟨y, hy⟩ : ∃ y, l[k]? = some y := ⟨_, List.getElem?_eq_getElem (by omega)⟩
    have hym := List.mem_of_getElem? hy
    obtain ⟨aa, rfl, hmy⟩ := (hl.ext hE).sl.get hy
    refine CW.region ?_
    refine WL.val (Y.indexAddrN Try.underlying22 rfl rfl sz0_recensionlaw08Commit (by omega)) (by decide) ?_
    refine WL.val (Y.load Try.underlying70 rfl hmy (sz_recensionlaw08Commit _) rfl) (by decide) ?_
    refine as_recensionlaw08Commit rfl (by simp) (by decide) fun g8 w4 hx4 hg8 hB8 => ?_
    have hlt8 := hB8.lt; have hz4 := hx4.size
    have hM8 := hB8.mem; have hz4 := hx4.size; have hE := hE.thenExt hx4
    refine WL.nil ?_
    refine hK14 _ _ ?_; try clear hK14 K14
    refine CW.seq fun K15 hK15 => ?_
    refine CW.held (fun wq => Chg (fun q => Fp g rb ra ns q ∨ Rp gr rs av ev_ q) w4 wq) (by kernel_rfl) 15 rfl fun w5 hx5 => ?_
    have hS : Chg (fun q => Fp g rb ra ns q ∨ Rp gr rs av ev_ q) w4 w5 := Ext.chg hx5
    have hz5 := hx5.size
    have hF : Ext w3 w5 := hx4.thenExt hx5
    have hE := hE.thenExt hx5
    have h8n : ¬ (Fp g rb ra ns g8 ∨ Rp gr rs av ev_ g8) := fun h => by
      rcases h with h | h
      · have := hA.ft.lt h; omega
      · have := hA.rt.lt h; omega
    refine RH.take 0 (fun _ _ _ _ h => h) (by kernel_rfl) hS rfl (by kernel_rfl) (by kernel_rfl) (fun wq hq => Y.move rfl) (by decide) ?_
    refine RH.take 1 (fun _ _ _ _ h => h) (by kernel_rfl) hS rfl (by kernel_rfl) (by kernel_rfl) (fun wq hq => Y.fieldAddr fo_recensionlaw08Commit0 rfl) (by decide) ?_
    refine RH.take 2 (fun _ _ _ _ h => h) (by kernel_rfl) hS rfl (by kernel_rfl) (by kernel_rfl) (fun wq hq => Y.load Try.underlying50 rfl (hB8.chg hq h8n).mem.recensionlaw08Commit0 (sz_apiDigest _) rfl) (by decide) ?_
    refine RH.take 4 (fun _ _ _ _ h => h) (by kernel_rfl) hS rfl (by kernel_rfl) (by kernel_rfl) (fun wq hq => Y.fieldAddr fo_recensionlaw08Commit1 rfl) (by decide) ?_
    refine RH.take 5 (fun _ _ _ _ h => h) (by kernel_rfl) hS rfl (by kernel_rfl) (by kernel_rfl) (fun wq hq => Y.load1 Try.underlying27 rfl (hB8.chg hq h8n).mem.recensionlaw08Commit1 rfl) (by decide) ?_
    refine RH.take 8 (fun _ _ _ _ h => h) (by kernel_rfl) hS rfl (by kernel_rfl) (by kernel_rfl) (fun wq hq => Y.move rfl) (by decide) ?_
    refine RH.take 9 (fun _ _ _ _ h => h) (by kernel_rfl) hS rfl (by kernel_rfl) (by kernel_rfl) (fun wq hq => Y.fieldAddr fo_recensionlaw08Commit0 rfl) (by decide) ?_
    refine RH.take 10 (fun _ _ _ _ h => h) (by kernel_rfl) hS rfl (by kernel_rfl) (by kernel_rfl) (fun wq hq => Y.load Try.underlying50 rfl (hB8.chg hq h8n).mem.recensionlaw08Commit0 (sz_apiDigest _) rfl) (by decide) ?_
    refine RH.take 11 (fun _ _ _ _ h => h) (by kernel_rfl) hS rfl (by kernel_rfl) (by kernel_rfl) (fun wq hq => Y.fieldAddr fo_recensionlaw08Commit1 rfl) (by decide) ?_
    refine RH.take 12 (fun _ _ _ _ h => h) (by kernel_rfl) hS rfl (by kernel_rfl) (by kernel_rfl) (fun wq hq => Y.load1 Try.underlying27 rfl (hB8.chg hq h8n).mem.recensionlaw08Commit1 rfl) (by decide) ?_
    refine RH.one 3 (by kernel_rfl) ?_
    refine RS.st rfl (St.buildSlice0 Try.underlying27 sz0_apiOp) (by decide) fun v22 w6 hR6 => ?_
    obtain ⟨gb, rfl, hgb, hOb, hx6⟩ := hR6
    have hz6 := hx6.size
    have hS := hS.thenExt hx6
    have hE := hE.thenExt hx6
    have hF := hF.thenExt hx6
    refine ⟨hS, ?_⟩
    refine RH.one 6 (by kernel_rfl) ?_
    refine RS.st rfl (St.append (news := (y.ops.map opC).flatten) Try.underlying27 Try.underlying27 ai_op rfl rfl hOb (Sl.src opC_length ((hl.ops y hym).ext hE)) one_ops (by have := hl.fit y hym; simp only [List.length_nil]; omega)) (by decide) fun v25 w7 hR7 => ?_
    obtain ⟨hO7, hc7, hf7⟩ := hR7
    have hz7 := hc7.size
    rw [List.nil_append] at hO7
    have hgbo : ∀ q, (Value.slice (some ⟨gb, 0, none⟩) 0 0).ownBlock = some q → q = gb := fun q h => by
      injection h with h
      exact h.symm
    have hS : Chg (fun q => Fp g rb ra ns q ∨ Rp gr rs av ev_ q) w4 w7 := hS.stepO hc7 (fun q hq => .inr (by have := hgbo q hq; omega))
    have hE := hE.step hc7 (fun q hq => by have := hgbo q hq; omega)
    have hF := hF.step hc7 (fun q hq => by have := hgbo q hq; omega)
    have hsl7 := hO7.sl opC_length (by decide)
    have hf7 : ∀ q, v25.ownBlock = some q → w5.heap.size ≤ q := fun q hq => by
      rcases hf7 with h | h
      · rw [h] at hq; have := hgbo q hq; omega
      · have := h q hq; omega
    refine ⟨hS, ?_⟩
    refine RH.one 7 (by kernel_rfl) ?_
    refine RS.call rfl (fun _ _ h => by cases h) Try.func21 rfl rfl rfl (fadd_any g rb ra T.ad ns y.id _ y.ops L _ (hA.ft.ext hF) (by rw [hA.fe]; exact hA.ok) hsl7 (fun _ q hq => ⟨hO7.lt q hq, fun h => by have h1 := hA.ft.lt h; have h2 := hf7 q hq; omega⟩)) (by decide) fun v26 w8 hR8 => ?_
    obtain ⟨rfl, ns2, hT8, he8, hc8, hf8, _⟩ := hR8
    have hz8 := hc8.size
    have hS : Chg (fun q => Fp g rb ra ns q ∨ Rp gr rs av ev_ q) w4 w8 := hS.trans hc8 (fun q _ h => .inl h)
    have hR8 : RtAt w8 gr T.ad rs av ev_ := (hA.rt.ext hF).chg hc8 (fun q hq h => (hA.rnew q hq).2 h)
    have hyo : y.ops ≠ [] → ∀ q, y.pv.ownBlock = some q → q < w.heap.size := fun h0 => (hl.ops y hym).own_lt opC_ne h0
    have hl8 : Sl w8 opC 37 y.pv y.ops := ((hl.ops y hym).ext hE).chgN hc8 (fun h0 q hq h => by have h1 := hyo h0 q hq; have h2 := hA.fnew q h; omega)
    refine ⟨hS, ?_⟩
    refine RH.one 13 (by kernel_rfl) ?_
    refine RS.call rfl (fun _ _ h => by cases h) Try.func28 rfl rfl rfl (radd_any gr T.ad rs av ev_ y.id _ y.ops L _ hR8 (by rw [hA.re]; exact hA.ok) (by have := hA.few; omega) hl8 (fun h0 q hq => by have h1 := hyo h0 q hq; exact ⟨by omega, fun h => by have h2 := (hA.rnew q h).1; omega⟩)) (by decide) fun v32 w9 hR9 => ?_
    obtain ⟨rfl, rs2, av2, ev2, hT9, he9, hc9, hf9⟩ := hR9
    have hz9 := hc9.size
    have hS : Chg (fun q => Fp g rb ra ns q ∨ Rp gr rs av ev_ q) w4 w9 := hS.trans hc9 (fun q _ h => .inr h)
    have hsame : wrongC ⟨T.ad, Fw.els ns⟩ y.id y.ops = wrongC ⟨T.ad, rels rs⟩ y.id y.ops := by rw [hA.fe, hA.re]
    rw [hA.fe] at hT8 he8
    rw [hA.re] at hT9 he9
    have hzF := hF.size
    obtain ⟨L2, hok2, _⟩ := hA.ok.addT y.id y.ops
    have hA2 : GrAt w w9 g rb ra ns2 gr rs2 av2 ev2 L2 (addT T y.id y.ops) (k + 1) := {
      ft := hT8.chg hc9 (fun q hq h => by
        rcases hf8 q hq with h1 | h1
        · exact (hA.rnew q h).2 h1
        · have := hA.rt.lt h; omega)
      fe := he8
      rt := hT9
      re := he9
      ok := hok2
      few := addT_few hA.few
      fnew := fun q hq => by
        rcases hf8 q hq with h1 | h1
        · exact hA.fnew q h1
        · omega
      rnew := fun q hq => by
        rcases hf9 q hq with h1 | h1
        · refine ⟨(hA.rnew q h1).1, fun h => ?_⟩
          rcases hf8 q h with h2 | h2
          · exact (hA.rnew q h1).2 h2
          · have := hA.rt.lt h1; omega
        · exact ⟨by omega, fun h => by have := hT8.lt h; omega⟩
      ext := (hE.step hc8 (fun q hq => hA.fnew q hq)).step hc9 (fun q hq => (hA.rnew q hq).1) }
    refine ⟨hS, ?_⟩
    refine RH.take 14 (fun _ _ _ _ h => h) (by kernel_rfl) hS rfl (by kernel_rfl) (by kernel_rfl) (fun wq hq => Y.neq rfl rfl) (by decide) ?_
    refine RH.done (by kernel_rfl) ?_
    skip
    refine hK15 _ _ ?_; try clear hK15 K15
    first | refine CW.condD rfl (fun ht16 => ?_) (fun ht16 => ?_) | refine CW.condND rfl (fun ht16 => ?_) (fun ht16 => ?_) | refine CW.condN rfl (fun ht16 => ?_) (fun ht16 => ?_) | refine CW.cond rfl (fun ht16 => ?_) (fun ht16 => ?_)
    · -- then
      refine CW.seq fun K17 hK17 => ?_
      refine CW.region ?_
      refine WL.val (Y.assign rfl) (by decide) ?_
      refine WL.val (Y.assign rfl) (by decide) ?_
      refine WL.val (Y.assign rfl) (by decide) ?_
      refine WL.nil ?_
      refine hK17 _ _ ?_; try clear hK17 K17
      refine CW.ret ⟨_, rfl, ?_⟩
      exact absurd hsame (by assumption)
 
    refine CW.skip ?_
    refine hK13 _ _ ?_; try clear hK13 K13
    refine CW.region ?_
    refine WL.val (Y.add rfl rfl ⟨by omega, by omega⟩) (by decide) ?_
    refine WL.val (Y.move rfl) (by decide) ?_
    refine WL.nil ?_
    exact ⟨(k + 1, ns2, rs2, av2, ev2, L2, addT T y.id y.ops), (by show m - (k + 1) < m - k; omega), (by repeat (first | exact Fr.le.nil | refine Fr.le.cons rfl ?_)), (by show k + 1 ≤ m; omega), hA2⟩
  refine CW.exit ?_
  refine hK8 _ _ ?_; try clear hK8 K8
  refine CW.seq fun K18 hK18 => ?_
  refine CW.region ?_
  refine WL.val (Y.move rfl) (by decide) ?_
  refine WL.val (Y.move rfl) (by decide) ?_
  refine WL.val (Y.assign rfl) (by decide) ?_
  refine WL.val (Y.assign rfl) (by decide) ?_
  refine WL.val (Y.assign rfl) (by decide) ?_
  refine WL.nil ?_
  refine hK18 _ _ ?_; try clear hK18 K18
  refine CW.ret ⟨_, rfl, ?_⟩
  have hkl : k = l.length := by omega
  rw [hkl] at hA
  exact ⟨g, rb, ra, ns, gr, rs, av, ev_, L, T, rfl, hA⟩
end Go.Proofs.Ytmndofgagngcgaa
