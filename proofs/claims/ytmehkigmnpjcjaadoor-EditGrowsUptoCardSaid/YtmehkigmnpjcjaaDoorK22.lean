/- Parts of a proof: what its last text leans on. No condition. -/
import Derived.Maps.RangeRun
import Derived.Test.YtmehkigmnpjcjaaDoorK08
import Derived.Test.YtmehkigmnpjcjaaDoorK17
import Derived.Test.YtmehkigmnpjcjaaDoorK19
import Derived.Test.YtmehkigmnpjcjaaDoorK21
set_option linter.unusedSimpArgs false
set_option linter.unusedVariables false
/- diff.costs, walked. No condition but the texts' lengths. -/
namespace Go.Fw
open Go.RowKit Go.Fu
theorem Y.slice3 {P : Program} {n : NN} {fr : Fr} {w : World} {x lo hi mx : Operand} {t e ty : TypeId} {a : Addr} {m c k i d : Nat} {ki kj kl : IntKind} {zi zj zl : Int} (hT : P.underlying t = some (.slice e)) (hx : ev fr x = some (.slice (some a) m c)) (hlo : ev fr lo = some (.int ki zi)) (hhi : ev fr hi = some (.int kj zj)) (hmx : ev fr mx = some (.int kl zl))
  (hS : (P.info? e).map (·.size) = some k) (hi' : zi = (i : Int)) (hj' : zj = ((i + d : Nat) : Int)) (hl' : zl = ((i + d : Nat) : Int)) (h1 : i + d ≤ c) (h2 : 0 < d) : Yw P n fr (.slice t x (some lo) (some hi) (some mx)) ty w (.slice (some (a.add (i * k))) d d) w := fun b o' ho _ ha => by
 subst hi'; subst hj'; subst hl'
 have e1 : (0 : Int) ≤ (i : Int) := by omega
 have e2 : (0 : Int) ≤ ((i + d : Nat) : Int) := by omega
 have e3 : i ≤ i + d := by omega
 have e4 : i + d - i = d := by omega
 have e5 : ¬ i + d = i := by omega
 have e6 : ¬ d = 0 := by omega
 simp only [execOp, ho, ha.ev hx, ha.ev hlo, ha.ev hhi, ha.ev hmx, Option.map_some]
 have e7 : ((i : Int) + (d : Int)).toNat = i + d := by omega
 have e8 : (0 : Int) ≤ (i : Int) + (d : Int) := by omega
 have e9 : (i : Int) + (d : Int) ≤ (c : Int) := by omega
 have e10 : max ((i : Int) + (d : Int)) 0 = (i : Int) + (d : Int) := by omega
 simp [Instr.sliceAt, Instr.slice, run_underlying hT, Instr.sliceBounds, Instr.sliceBound, asIntOf, e1, e7, e8, e9, e10, e3, e4, e5, e6, fw_sizeOf hS]
theorem Y.minN {P : Program} {n : NN} {fr : Fr} {w : World} {ty : TypeId} {x y : Operand} {k : IntKind} {p q : Nat} {t t' : TypeId} (hx : ev fr x = some (.int k (p : Int))) (hy : ev fr y = some (.int k (q : Int))) :
  Yw P n fr (.call { callee := .builtin .min, args := #[x, y], argTypes := #[t, t'] }) ty w (.int k ((min p q : Nat) : Int)) w := fun a o' ho _ ha => by
 simp [execOp, ho, resolve, invoke, builtin, ha.ev hx, ha.ev hy, Builtin.min_, Builtin.min2]
 split <;> omega
theorem wrap16 {p : Nat} (h : p < 32768) : IntKind.i16.wrap (p : Int) = (p : Int) := by simp [IntKind.wrap, IntKind.bits, IntKind.signed]; omega
theorem Y.add16 {P : Program} {n : NN} {fr : Fr} {w : World} {ty : TypeId} {x y : Operand} {p : Nat} {t t' : TypeId} (hx : ev fr x = some (.int .i16 1)) (hy : ev fr y = some (.int .i16 (p : Int))) (h : p < 32000) : Yw P n fr (.binOp .add t x y t') ty w (.int .i16 ((1 + p : Nat) : Int)) w := by
 have := Y.add_k (P := P) (n := n) (w := w) (ty := ty) (t := t) (t' := t') hx hy
 rwa [show (1 : Int) + (p : Int) = ((1 + p : Nat) : Int) by omega, wrap16 om_] at this
theorem mulB {p q B : Nat} (hp : p * (q + 1) ≤ B) : 0 ≤ (p : Int) * ((q : Int) + 1) ∧ (p : Int) * ((q : Int) + 1) ≤ B := by
 rw [show (p : Int) * ((q : Int) + 1) = ((p * (q + 1) : Nat) : Int) by rw [Int.natCast_mul]; rfl]; omega
theorem mulB1 {p q B : Nat} (hp : (p + 1) * (q + 1) ≤ B) : 0 ≤ ((p : Int) + 1) * ((q : Int) + 1) ∧ ((p : Int) + 1) * ((q : Int) + 1) ≤ B := mulB (p := p + 1) hp
theorem row_lt {i j N W : Nat} (hi : i < N) (hj : j < W) : i * W + j < N * W := by
 have h1 : (i + 1) * W ≤ N * W := Nat.mul_le_mul_right W hi
 rw [Nat.succ_mul] at h1
 omega
theorem row_eq {i j i' j' W : Nat} (hj : j < W) (hj' : j' < W) (h : i' * W + j' = i * W + j) : i' = i ∧ j' = j := by
 have h1 : (i * W + j) / W = i := Nat.div_eq_of_lt_le om_ (by rw [Nat.succ_mul]; omega)
 have h2 : (i' * W + j') / W = i' := Nat.div_eq_of_lt_le om_ (by rw [Nat.succ_mul]; omega)
 have h3 : i' = i := by rw [← h1, ← h2, h]
 subst h3
 exact ⟨rfl, by omega⟩
theorem Blk.tab2 {w : World} {B N W i j : Nat} {T : TypeId} {f : Nat → Value} (h : Blk w B T (tabL (N * W) f)) (hi : i < N) (hj : j < W) : Mem w (((⟨B, 0, none⟩ : Addr).add (i * W * 1)).add (j * 1)) [f (i * W + j)] := by
 have := h.tab (row_lt hi hj)
 rw [add_add, show i * W * 1 + j * 1 = (i * W + j) * 1 by omega]
 exact this
def CostTo (a b : List UInt8) (f : Nat → Value) (i j : Nat) : Prop := ∀ i' j', i' ≤ a.length → j' ≤ b.length → (i < i' ∨ (i' = i ∧ j ≤ j')) → f (i' * (b.length + 1) + j') = .int .i16 (cst (a.drop i') (b.drop j') : Int)
theorem CostTo.put {a b : List UInt8} {f : Nat → Value} {i j v : Nat} (h : CostTo a b f i (j + 1)) (hj : j ≤ b.length) (hv : v = cst (a.drop i) (b.drop j)) : CostTo a b (updL f (i * (b.length + 1) + j) (.int .i16 (v : Int))) i j := by
 intro i' j' h1 h2 h3
 unfold updL
 by_cases e : i' * (b.length + 1) + j' = i * (b.length + 1) + j
 ·
  rw [if_pos e]
  obtain ⟨rfl, rfl⟩ := row_eq om_ om_ e
  rw [hv]
 ·
  rw [if_neg e]
  refine h i' j' h1 h2 ?_
  rcases h3 with h3 | ⟨rfl, h3⟩
  ·
   exact .inl h3
  ·
   refine .inr ⟨rfl, ?_⟩
   rcases Nat.lt_or_ge j j' with h4 | h4
   ·
    exact h4
   ·
    exact absurd (by rw [show j' = j by omega]) e
theorem CostTo.up {a b : List UInt8} {f : Nat → Value} {i : Nat} (h : CostTo a b f i 0) : CostTo a b f i 0 := h
theorem CostTo.next {a b : List UInt8} {f : Nat → Value} {i : Nat} (h : CostTo a b f (i + 1) 0) : CostTo a b f i (b.length + 1) := fun i' j' h1 h2 h3 => h i' j' h1 h2 (by
 rcases h3 with h3 | ⟨_, h3⟩
 ·
  rcases Nat.lt_or_ge (i + 1) i' with h4 | h4
  ·
   exact .inl h4
  ·
   exact .inr o2_
 ·
  omega)
theorem drop_cons {l : List UInt8} {i : Nat} (h : i < l.length) : l.drop i = l[i] :: l.drop (i + 1) := List.drop_eq_getElem_cons h
end Go.Fw
namespace Go.Proofs.YtmehkigmnpjcjaaDoor
open Go.RowKit Go.Fw Go.Fu Go.Pl
theorem sz0_int16 : (Tryd.prog.info? 133).map (·.size) = some 1 := by kernel_rfl
theorem sz0_sint16 : (Tryd.prog.info? 134).map (·.size) = some 1 := by kernel_rfl
theorem mi_i16 : MakeInfo Tryd.prog 133 [.int .i16 0] 2 := by
 have h : (Tryd.prog.info? 133).map (fun i => (i.zero, i.size, i.bytes)) = some (some (.int .i16 0), 1, 2) := by kernel_rfl
 obtain ⟨i, hi, h⟩ := Option.map_eq_some_iff.1 h
 injection h with h1 h2
 injection h2 with h2 h3
 exact ⟨i, _, hi, h1, rfl, h2, h3⟩
theorem mi_s16 : MakeInfo Tryd.prog 134 [.slice none 0 0] 24 := by
 have h : (Tryd.prog.info? 134).map (fun i => (i.zero, i.size, i.bytes)) = some (some (.slice none 0 0), 1, 24) := by kernel_rfl
 obtain ⟨i, hi, h⟩ := Option.map_eq_some_iff.1 h
 injection h with h1 h2
 injection h2 with h2 h3
 exact ⟨i, _, hi, h1, rfl, h2, h3⟩
theorem rep_one {n : Nat} {v : Value} : (List.replicate n [v]).flatten = tabL n fun _ => v := by
 rw [← tabL_const]
 induction n with
 | zero => rfl
 | succ n ih => rw [List.replicate_succ, List.flatten_cons, ih]; rfl
abbrev rowV (B W i : Nat) : Value := .slice (some ((⟨B, 0, none⟩ : Addr).add (i * W * 1))) W W
set_option maxRecDepth 100000 in
set_option maxHeartbeats 4000000 in
theorem costs_any (a b : List UInt8) (w : World) (ha : a.length ≤ 1000) (hb : b.length ≤ 1000) : Calls Tryd.prog 53 #[.string (bs a), .string (bs b)] w (Ret fun v w' => TabR w' .i16 v (a.length + 1) (b.length + 1) (fun i j => (cst (a.drop i) (b.drop j) : Int)) ∧ Ext w w') := by
 have hsa := bs_size a
 have hsb := bs_size b
 have hNW : ((bs a).size + 1) * ((bs b).size + 1) ≤ 1002001 := Nat.le_trans (Nat.mul_le_mul (show (bs a).size + 1 ≤ 1001 by omega) (show (bs b).size + 1 ≤ 1001 by omega)) de_
 have hNWi := mulB1 hNW
 refine calls_of_CW 138 [4] [(0, .string (bs a)), (1, .string (bs b))] Tryd.func53 rfl rfl rfl (by simp) args2 ?_
 have hE : Ext w w := Chg.refl
 refine CW.sr fun K1 hK1 => ?_
 refine WL.a rfl ?_
 refine WL.nil (hK1 _ _ ?_); try clear hK1
 refine CW.sr fun K2 hK2 => ?_
 refine WL.m rfl ?_
 refine WL.v (Y.len_string Tryd.underlying9 rfl) ?_
 refine WL.v (Y.add rfl rfl o2_) ?_
 refine WL.a rfl ?_
 refine WL.nil (hK2 _ _ ?_); try clear hK2
 refine CW.sr fun K3 hK3 => ?_
 refine WL.m rfl ?_
 refine WL.v (Y.len_string Tryd.underlying9 rfl) ?_
 refine WL.v (Y.add rfl rfl o2_) ?_
 refine WL.m rfl ?_
 refine WL.v (Y.mul rfl rfl o2_) ?_
 refine WL.st (St.makeK (m := ((bs a).size + 1) * ((bs b).size + 1)) Tryd.underlying134 mi_i16 rfl rfl om_ om_) de_ fun v19 w1 hR1 => ?_
 obtain ⟨B, rfl, hgB, hB, hx1⟩ := hR1
 have hz1 := hx1.size
 rw [rep_one] at hB
 have hE := hE.thenExt hx1
 have hltB := hB.lt
 refine WL.a rfl ?_
 refine WL.nil (hK3 _ _ ?_); try clear hK3
 refine CW.sr fun K4 hK4 => ?_
 refine WL.m rfl ?_
 refine WL.v (Y.len_string Tryd.underlying9 rfl) ?_
 refine WL.v (Y.add rfl rfl o2_) ?_
 refine WL.st (St.makeK (m := ((bs a).size + 1)) Tryd.underlying130 mi_s16 rfl rfl om_ om_) de_ fun v23 w2 hR2 => ?_
 obtain ⟨R, rfl, hgR, hR, hx2⟩ := hR2
 have hz2 := hx2.size
 rw [rep_one] at hR
 have hE := hE.thenExt hx2
 have hB := hB.ext hx2
 have hRB : R ≠ B := by omega
 refine WL.a rfl ?_
 refine WL.nil (hK4 _ _ ?_); try clear hK4
 refine CW.seq fun K5 hK5 => ?_
 refine CW.sr fun K6 hK6 => ?_
 refine WL.m rfl ?_
 refine WL.v (Y.len_slice Tryd.underlying130 rfl) ?_
 refine WL.m rfl ?_
 refine WL.nil (hK6 _ _ ?_); try clear hK6
 refine CW.block ?_
 refine CW.loop (X := Nat) (fun x => [(0, .string (bs a)), (1, .string (bs b)), (7, .slice (some ⟨R, 0, none⟩) ((bs a).size + 1) ((bs a).size + 1)), (5, .int .i64 ((((bs b).size + 1) : Nat) : Int)), (6, .slice (some ⟨B, 0, none⟩) (((bs a).size + 1) * ((bs b).size + 1)) (((bs a).size + 1) * ((bs b).size + 1))), (25, .int .i64 ((((bs a).size + 1) : Nat) : Int)), (26, .int .i64 (x : Int))]) (fun x w0 => x ≤ ((bs a).size + 1) ∧ (∃ g, Blk w0 R 134 (tabL ((bs a).size + 1) g) ∧ ∀ i, i < x → g i = rowV B ((bs b).size + 1) i) ∧ Blk w0 B 133 (tabL (((bs a).size + 1) * ((bs b).size + 1)) fun _ => .int .i16 0) ∧ Ext w w0) (fun x => ((bs a).size + 1) - x) 0 (by repeat (first | exact Fr.le.nil | refine Fr.le.cons rfl ?_ | refine Fr.le.cons (by show some (Value.int .i64 _) = some (Value.int .i64 _); congr 2; dsimp only; omega) ?_)) ⟨Nat.zero_le _, ⟨_, hR, fun i h => by omega⟩, hB, hE⟩ ?_
 intro x w3 hl3
 obtain ⟨hxm, ⟨g, hR, hg⟩, hB, hE⟩ := hl3
 have hltR := hR.lt
 have hxW : x * ((bs b).size + 1) ≤ ((bs a).size + 1) * ((bs b).size + 1) := Nat.mul_le_mul_right _ hxm
 have hxWi := mulB (Nat.le_trans hxW hNW)
 have hx1W : x < ((bs a).size + 1) → (x + 1) * ((bs b).size + 1) ≤ ((bs a).size + 1) * ((bs b).size + 1) := fun h => Nat.mul_le_mul_right _ h
 refine CW.sr fun K7 hK7 => ?_
 refine WL.v (Y.lss rfl rfl) ?_
 refine WL.nil (hK7 _ _ ?_); try clear hK7
 refine CW.seq fun K8 hK8 => ?_
 (first | refine cd_ rfl ?_ ?_ | refine ce_ rfl ?_ ?_ | refine cn_ rfl ?_ ?_ | refine cb_ rfl ?_ ?_) <;> intro ht9
 ·
  -- then
  refine CW.skip ?_
  refine hK8 _ _ ?_; try clear hK8
  refine CW.seq fun K10 hK10 => ?_
  refine CW.block ?_
  refine CW.sr fun K11 hK11 => ?_
  refine WL.m rfl ?_
  refine WL.a rfl ?_
  refine WL.nil (hK11 _ _ ?_); try clear hK11
  have hx1W2 := hx1W om_
  have hx1Wi := mulB1 (Nat.le_trans hx1W2 hNW)
  have hx1Wj : 0 ≤ ((x : Int) + 1) * (((bs b).size + 1 : Nat) : Int) ∧ ((x : Int) + 1) * (((bs b).size + 1 : Nat) : Int) ≤ ((1002001 : Nat) : Int) := hx1Wi
  refine CW.region ?_
  refine WL.m rfl ?_
  refine WL.m rfl ?_
  refine WL.m rfl ?_
  refine WL.m rfl ?_
  refine WL.m rfl ?_
  refine WL.v (Y.mul rfl rfl o2_) ?_
  refine WL.m rfl ?_
  refine WL.v (Y.add rfl rfl o2_) ?_
  refine WL.m rfl ?_
  refine WL.v (Y.mul rfl rfl o2_) ?_
  refine WL.m rfl ?_
  refine WL.v (Y.add rfl rfl o2_) ?_
  refine WL.m rfl ?_
  refine WL.v (Y.mul rfl rfl o2_) ?_
  refine WL.v (Y.slice3 (i := x * ((bs b).size + 1)) (d := ((bs b).size + 1)) Tryd.underlying134 rfl rfl rfl rfl sz0_int16 (by first | (rw [Int.natCast_mul]; done) | (rw [Int.natCast_mul]; rfl)) (by first | (rw [← Nat.succ_mul, Int.natCast_mul]; done) | (rw [← Nat.succ_mul, Int.natCast_mul]; rfl)) (by first | (rw [← Nat.succ_mul, Int.natCast_mul]; done) | (rw [← Nat.succ_mul, Int.natCast_mul]; rfl)) (by rw [← Nat.succ_mul]; exact hx1W om_) om_) ?_
  refine WL.v (Y.indexAddrN Tryd.underlying130 rfl rfl sz0_sint16 om_) ?_
  refine WL.storeC (i := x) rfl rfl rfl rfl rfl kr_ hR ((by rw [tabL_length]; omega)) (fun w4 hc4 hB4_ => ?_)
  have hz4 := hc4.size; have hE := hE.step hc4 (fun k h => by omega)
  have hB := hB.chg hc4 (fun h => hRB h.symm)
  rw [tabL_set] at hB4_
  refine WL.nil (hK10 _ _ ?_); try clear hK10
  refine CW.region ?_
  refine WL.v (Y.add rfl rfl o2_) ?_
  refine WL.m rfl ?_
  refine WL.nil ?_
  exact ⟨x + 1, (by show ((bs a).size + 1) - (x + 1) < ((bs a).size + 1) - x; omega), (by repeat (first | exact Fr.le.nil | refine Fr.le.cons rfl ?_ | refine Fr.le.cons (by show some (Value.int .i64 _) = some (Value.int .i64 _); congr 2; dsimp only; omega) ?_)), (by show x + 1 ≤ ((bs a).size + 1); omega), ⟨_, hB4_, fun i h => by unfold updL; by_cases e : i = x; (rw [if_pos e, e]); (rw [if_neg e]; exact hg i om_)⟩, hB, hE⟩
 refine CW.exit ?_
 refine hK5 _ _ ?_; try clear hK5
 refine CW.seq fun K12 hK12 => ?_
 refine CW.sr fun K13 hK13 => ?_
 refine WL.m rfl ?_
 refine WL.v (Y.len_string Tryd.underlying9 rfl) ?_
 refine WL.a rfl ?_
 refine WL.nil (hK13 _ _ ?_); try clear hK13
 refine CW.block ?_
 refine CW.loop (X := Nat × (Nat → Value)) (fun x => [(0, .string (bs a)), (1, .string (bs b)), (7, .slice (some ⟨R, 0, none⟩) ((bs a).size + 1) ((bs a).size + 1)), (9, .int .i64 ((x.1 : Int) - 1))]) (fun x w0 => x.1 ≤ ((bs a).size + 1) ∧ Blk w0 R 134 (tabL ((bs a).size + 1) (rowV B ((bs b).size + 1))) ∧ Blk w0 B 133 (tabL (((bs a).size + 1) * ((bs b).size + 1)) x.2) ∧ (x.1 ≤ a.length → CostTo a b x.2 x.1 0) ∧ Ext w w0) (fun x => x.1) ((bs a).size + 1, fun _ => .int .i16 0) (by repeat (first | exact Fr.le.nil | refine Fr.le.cons rfl ?_ | refine Fr.le.cons (by show some (Value.int .i64 _) = some (Value.int .i64 _); congr 2; dsimp only; omega) ?_)) ⟨Nat.le_refl _, by have e : tabL ((bs a).size + 1) g = tabL ((bs a).size + 1) (rowV B ((bs b).size + 1)) := List.map_congr_left fun i hi => hg i (by have := List.mem_range.1 hi; omega); rw [← e]; exact hR, hB, (fun h => by have h : (bs a).size + 1 ≤ a.length := h; omega), hE⟩ ?_
 intro x w5 hl5
 obtain ⟨x, f⟩ := x
 dsimp only at hl5 ⊢
 obtain ⟨hxm, hR, hB, hC, hE⟩ := hl5
 refine CW.seq fun K14 hK14 => ?_
 refine CW.sr fun K15 hK15 => ?_
 refine WL.m rfl ?_
 refine WL.v (Y.geq rfl rfl) ?_
 refine WL.nil (hK15 _ _ ?_); try clear hK15
 (first | refine cd_ rfl ?_ ?_ | refine ce_ rfl ?_ ?_ | refine cn_ rfl ?_ ?_ | refine cb_ rfl ?_ ?_) <;> intro ht16
 ·
  -- then
  refine CW.skip ?_
  refine hK14 _ _ ?_; try clear hK14
  refine CW.seq fun K17 hK17 => ?_
  refine CW.block ?_
  refine CW.seq fun K18 hK18 => ?_
  obtain ⟨i, rfl⟩ : ∃ i, x = i + 1 := ⟨x - 1, by omega⟩
  rw [show (((i + 1 : Nat) : Int) - 1) = (i : Int) by omega]
  refine CW.region ?_
  refine WL.m rfl ?_
  refine WL.v (Y.len_string Tryd.underlying9 rfl) ?_
  refine WL.a rfl ?_
  refine WL.nil (hK18 _ _ ?_); try clear hK18
  refine CW.block ?_
  refine CW.loop (X := Nat × (Nat → Value)) (fun x => [(0, .string (bs a)), (1, .string (bs b)), (7, .slice (some ⟨R, 0, none⟩) ((bs a).size + 1) ((bs a).size + 1)), (9, .int .i64 (i : Int)), (10, .int .i64 ((x.1 : Int) - 1))]) (fun x w0 => x.1 ≤ ((bs b).size + 1) ∧ Blk w0 R 134 (tabL ((bs a).size + 1) (rowV B ((bs b).size + 1))) ∧ Blk w0 B 133 (tabL (((bs a).size + 1) * ((bs b).size + 1)) x.2) ∧ CostTo a b x.2 i x.1 ∧ Ext w w0) (fun x => x.1) ((bs b).size + 1, f) (by repeat (first | exact Fr.le.nil | refine Fr.le.cons rfl ?_ | refine Fr.le.cons (by show some (Value.int .i64 _) = some (Value.int .i64 _); congr 2; dsimp only; omega) ?_)) ⟨Nat.le_refl _, hR, hB, (by show CostTo a b f i ((bs b).size + 1); rw [hsb]; by_cases h : i + 1 ≤ a.length; exact (hC h).next; exact fun i1 j1 h1 h2 h3 => by omega), hE⟩ ?_
  intro x w6 hl6
  obtain ⟨y, f⟩ := x
  dsimp only at hl6 ⊢
  obtain ⟨hym, hR, hB, hD, hE⟩ := hl6
  have hltB := hB.lt
  refine CW.seq fun K19 hK19 => ?_
  refine CW.sr fun K20 hK20 => ?_
  refine WL.m rfl ?_
  refine WL.v (Y.geq rfl rfl) ?_
  refine WL.nil (hK20 _ _ ?_); try clear hK20
  (first | refine cd_ rfl ?_ ?_ | refine ce_ rfl ?_ ?_ | refine cn_ rfl ?_ ?_ | refine cb_ rfl ?_ ?_) <;> intro ht21
  ·
   -- then
   refine CW.skip ?_
   refine hK19 _ _ ?_; try clear hK19
   obtain ⟨j, rfl⟩ : ∃ j, y = j + 1 := ⟨y - 1, by omega⟩
   rw [show (((j + 1 : Nat) : Int) - 1) = (j : Int) by omega]
   refine CW.seq_to (X := Nat → Value) (fun _ => [(0, .string (bs a)), (1, .string (bs b)), (7, .slice (some ⟨R, 0, none⟩) ((bs a).size + 1) ((bs a).size + 1)), (9, .int .i64 (i : Int)), (10, .int .i64 (j : Int))]) (fun f2 w0 => Blk w0 R 134 (tabL ((bs a).size + 1) (rowV B ((bs b).size + 1))) ∧ Blk w0 B 133 (tabL (((bs a).size + 1) * ((bs b).size + 1)) f2) ∧ CostTo a b f2 i j ∧ Ext w w0) ?_ ?_
   ·
    skip
    refine CW.block ?_
    refine CW.block ?_
    refine CW.sr fun K23 hK23 => ?_
    refine WL.m rfl ?_
    refine WL.m rfl ?_
    refine WL.v (Y.len_string Tryd.underlying9 rfl) ?_
    refine WL.v (Y.eql rfl rfl) ?_
    refine WL.a rfl ?_
    refine WL.nil (hK23 _ _ ?_); try clear hK23
    (first | refine cd_ rfl ?_ ?_ | refine ce_ rfl ?_ ?_ | refine cn_ rfl ?_ ?_ | refine cb_ rfl ?_ ?_) <;> intro ht24
    ·
     -- then
     refine CW.region ?_
     refine WL.m rfl ?_
     refine WL.m rfl ?_
     refine WL.v (Y.indexAddrN Tryd.underlying130 rfl rfl sz0_sint16 om_) ?_
     refine WL.v (Y.load1 Tryd.underlying134 rfl (hR.tab om_).cell0 rfl) ?_
     refine WL.m rfl ?_
     refine WL.m rfl ?_
     refine WL.v (Y.len_string Tryd.underlying9 rfl) ?_
     refine WL.m rfl ?_
     refine WL.v (Y.sub rfl rfl o2_) ?_
     refine WL.v (Y.convR (r := (((bs b).size - j : Nat) : Int)) Tryd.underlying3 Tryd.underlying133 rfl (by rw [show ((bs b).size : Int) - (j : Int) = (((bs b).size - j : Nat) : Int) by omega]; exact wrap16 om_)) ?_
     refine WL.v (Y.indexAddrN Tryd.underlying134 rfl rfl sz0_int16 om_) ?_
     refine WL.storeC (i := i * ((bs b).size + 1) + j) rfl (by rw [add_add]; congr 1; omega) rfl rfl rfl kr_ hB ((by rw [tabL_length]; exact row_lt om_ om_)) (fun w7 hc7 hB7_ => ?_)
     have hz7 := hc7.size; have hE := hE.step hc7 (fun k h => by omega)
     have hR := hR.chg hc7 (fun h => hRB h)
     have hB : Blk w7 B 133 (tabL (((bs a).size + 1) * ((bs b).size + 1)) (updL f (i * ((bs b).size + 1) + j) (.int .i16 (((bs b).size - j : Nat) : Int)))) := by rw [← tabL_set]; exact hB7_
     refine WL.nil ?_
     exact ⟨updL f (i * ((bs b).size + 1) + j) (.int .i16 (((bs b).size - j : Nat) : Int)), (by repeat (first | exact Fr.le.nil | refine Fr.le.cons rfl ?_ | refine Fr.le.cons (by show some (Value.int .i64 _) = some (Value.int .i64 _); congr 2; dsimp only; omega) ?_)), hR, hB, (by rw [hsb]; exact hD.put om_ (by rw [List.drop_of_length_le om_, cst_nil, List.length_drop] <;> omega)), hE⟩
    refine CW.sr fun K25 hK25 => ?_
    refine WL.m rfl ?_
    refine WL.m rfl ?_
    refine WL.v (Y.len_string Tryd.underlying9 rfl) ?_
    refine WL.v (Y.eql rfl rfl) ?_
    refine WL.a rfl ?_
    refine WL.nil (hK25 _ _ ?_); try clear hK25
    (first | refine cd_ rfl ?_ ?_ | refine ce_ rfl ?_ ?_ | refine cn_ rfl ?_ ?_ | refine cb_ rfl ?_ ?_) <;> intro ht26
    ·
     -- then
     refine CW.region ?_
     refine WL.m rfl ?_
     refine WL.m rfl ?_
     refine WL.v (Y.indexAddrN Tryd.underlying130 rfl rfl sz0_sint16 om_) ?_
     refine WL.v (Y.load1 Tryd.underlying134 rfl (hR.tab om_).cell0 rfl) ?_
     refine WL.m rfl ?_
     refine WL.m rfl ?_
     refine WL.v (Y.len_string Tryd.underlying9 rfl) ?_
     refine WL.m rfl ?_
     refine WL.v (Y.sub rfl rfl o2_) ?_
     refine WL.v (Y.convR (r := (((bs a).size - i : Nat) : Int)) Tryd.underlying3 Tryd.underlying133 rfl (by rw [show ((bs a).size : Int) - (i : Int) = (((bs a).size - i : Nat) : Int) by omega]; exact wrap16 om_)) ?_
     refine WL.v (Y.indexAddrN Tryd.underlying134 rfl rfl sz0_int16 om_) ?_
     refine WL.storeC (i := i * ((bs b).size + 1) + j) rfl (by rw [add_add]; congr 1; omega) rfl rfl rfl kr_ hB ((by rw [tabL_length]; exact row_lt om_ om_)) (fun w8 hc8 hB8_ => ?_)
     have hz8 := hc8.size; have hE := hE.step hc8 (fun k h => by omega)
     have hR := hR.chg hc8 (fun h => hRB h)
     have hB : Blk w8 B 133 (tabL (((bs a).size + 1) * ((bs b).size + 1)) (updL f (i * ((bs b).size + 1) + j) (.int .i16 (((bs a).size - i : Nat) : Int)))) := by rw [← tabL_set]; exact hB8_
     refine WL.nil ?_
     exact ⟨updL f (i * ((bs b).size + 1) + j) (.int .i16 (((bs a).size - i : Nat) : Int)), (by repeat (first | exact Fr.le.nil | refine Fr.le.cons rfl ?_ | refine Fr.le.cons (by show some (Value.int .i64 _) = some (Value.int .i64 _); congr 2; dsimp only; omega) ?_)), hR, hB, (by rw [hsb]; exact hD.put om_ (by rw [List.drop_of_length_le (l := b) om_, cst_end, List.length_drop] <;> omega)), hE⟩
    refine CW.seq fun K27 hK27 => ?_
    refine CW.quiet (fun wq => Ext w6 wq) kr_ kr_ Chg.drew ?_
    refine QL.m rfl ?_
    refine QL.m rfl ?_
    refine QL.v (fun wq hq => Y.index_string (i := i) (s := bs a) Tryd.underlying9 rfl rfl om_) ?_
    refine QL.m rfl ?_
    refine QL.m rfl ?_
    refine QL.v (fun wq hq => Y.index_string (i := j) (s := bs b) Tryd.underlying9 rfl rfl om_) ?_
    refine QL.v (fun wq hq => Y.eql rfl rfl) ?_
    refine QL.a rfl ?_
    refine QL.nil fun w9 hx9 => ?_
    have hz9 := hx9.size
    have hE := hE.thenExt hx9
    refine hK27 _ _ ?_; try clear hK27
    (first | refine cd_ rfl ?_ ?_ | refine ce_ rfl ?_ ?_ | refine cn_ rfl ?_ ?_ | refine cb_ rfl ?_ ?_) <;> intro ht28
    ·
     -- then
     have hv11 : f ((i + 1) * ((bs b).size + 1) + (j + 1)) = .int .i16 (cst (a.drop (i + 1)) (b.drop (j + 1)) : Int) := by rw [hsb]; exact hD (i + 1) (j + 1) om_ om_ (.inl om_)
     have heq : a[i]'om_ = b[j]'om_ := by
      have h9 : ((a[i]'om_).toNat : Int) = ((b[j]'om_).toNat : Int) := by assumption
      exact UInt8.toNat_inj.1 om_
     refine CW.head 15 kr_ kr_ fun w10 hx10 => ?_
     skip; have hz10 := hx10.size; have hE := hE.thenExt hx10
     refine HL.val (Y.move rfl) de_ ?_
     refine HL.val (Y.move rfl) de_ ?_
     refine HL.val (Y.indexAddrN Tryd.underlying130 rfl rfl sz0_sint16 om_) de_ ?_
     refine HL.val (Y.load1 Tryd.underlying134 rfl ((hR.ext (hx9.thenExt hx10)).tab om_).cell0 rfl) de_ ?_
     refine HL.val (Y.move rfl) de_ ?_
     refine HL.val (Y.move rfl) de_ ?_
     refine HL.val (Y.move rfl) de_ ?_
     refine HL.val (Y.add rfl rfl o2_) de_ ?_
     refine HL.val (Y.indexAddrN Tryd.underlying130 rfl rfl sz0_sint16 om_ (i := i + 1)) de_ ?_
     refine HL.val (Y.load1 Tryd.underlying134 rfl ((hR.ext (hx9.thenExt hx10)).tab om_).cell0 rfl) de_ ?_
     refine HL.val (Y.move rfl) de_ ?_
     refine HL.val (Y.add rfl rfl o2_) de_ ?_
     refine HL.val (Y.indexAddrN Tryd.underlying134 rfl rfl sz0_int16 om_ (i := j + 1)) de_ ?_
     refine HL.val (Y.load1 Tryd.underlying133 rfl (by have h9 := (hB.ext (hx9.thenExt hx10)).tab2 (i := i + 1) (j := j + 1) om_ om_; rw [hv11] at h9; exact h9.cell0) rfl) de_ ?_
     refine HL.val (Y.indexAddrN Tryd.underlying134 rfl rfl sz0_int16 om_) de_ ?_
     refine HL.nil ?_
     refine WL.storeC (i := i * ((bs b).size + 1) + j) rfl (by rw [add_add]; congr 1; omega) rfl rfl rfl kr_ (hB.ext (hx9.thenExt hx10)) ((by rw [tabL_length]; exact row_lt om_ om_)) (fun w11 hc11 hB11_ => ?_)
     have hz11 := hc11.size; have hE := hE.step hc11 (fun k h => by omega)
     have hR := hR.ext (hx9.thenExt hx10)
     have hR := hR.chg hc11 (fun h => hRB h)
     have hB : Blk w11 B 133 (tabL (((bs a).size + 1) * ((bs b).size + 1)) (updL f (i * ((bs b).size + 1) + j) (.int .i16 ((cst (a.drop (i + 1)) (b.drop (j + 1)) : Nat) : Int)))) := by rw [← tabL_set]; exact hB11_
     refine WL.nil ?_
     exact ⟨updL f (i * ((bs b).size + 1) + j) (.int .i16 ((cst (a.drop (i + 1)) (b.drop (j + 1)) : Nat) : Int)), (by repeat (first | exact Fr.le.nil | refine Fr.le.cons rfl ?_ | refine Fr.le.cons (by show some (Value.int .i64 _) = some (Value.int .i64 _); congr 2; dsimp only; omega) ?_)), hR, hB, (by rw [hsb]; exact hD.put om_ (by rw [drop_cons (l := a) (i := i) om_, drop_cons (l := b) (i := j) om_, cst_cons, if_pos heq])), hE⟩
    have hv10 : f ((i + 1) * ((bs b).size + 1) + j) = .int .i16 (cst (a.drop (i + 1)) (b.drop j) : Int) := by rw [hsb]; exact hD (i + 1) j om_ om_ (.inl om_)
    have hv01 : f (i * ((bs b).size + 1) + (j + 1)) = .int .i16 (cst (a.drop i) (b.drop (j + 1)) : Int) := by rw [hsb]; exact hD i (j + 1) om_ om_ (.inr ⟨rfl, by omega⟩)
    have heq : ¬ a[i]'om_ = b[j]'om_ := fun h => by
     have h9 : ¬ ((a[i]'om_).toNat : Int) = ((b[j]'om_).toNat : Int) := by assumption
     exact h9 (by rw [h])
    refine CW.head 24 kr_ kr_ fun w12 hx12 => ?_
    skip; have hz12 := hx12.size; have hE := hE.thenExt hx12
    refine HL.val (Y.move rfl) de_ ?_
    refine HL.val (Y.move rfl) de_ ?_
    refine HL.val (Y.indexAddrN Tryd.underlying130 rfl rfl sz0_sint16 om_) de_ ?_
    refine HL.val (Y.load1 Tryd.underlying134 rfl ((hR.ext (hx9.thenExt hx12)).tab om_).cell0 rfl) de_ ?_
    refine HL.val (Y.move rfl) de_ ?_
    refine HL.val (Y.move rfl) de_ ?_
    refine HL.val (Y.move rfl) de_ ?_
    refine HL.val (Y.add rfl rfl o2_) de_ ?_
    refine HL.val (Y.indexAddrN Tryd.underlying130 rfl rfl sz0_sint16 om_ (i := i + 1)) de_ ?_
    refine HL.val (Y.load1 Tryd.underlying134 rfl ((hR.ext (hx9.thenExt hx12)).tab om_).cell0 rfl) de_ ?_
    refine HL.val (Y.move rfl) de_ ?_
    refine HL.val (Y.indexAddrN Tryd.underlying134 rfl rfl sz0_int16 om_) de_ ?_
    refine HL.val (Y.load1 Tryd.underlying133 rfl (by have h9 := (hB.ext (hx9.thenExt hx12)).tab2 (i := i + 1) (j := j) om_ om_; rw [hv10] at h9; exact h9.cell0) rfl) de_ ?_
    refine HL.val (Y.move rfl) de_ ?_
    refine HL.val (Y.move rfl) de_ ?_
    refine HL.val (Y.indexAddrN Tryd.underlying130 rfl rfl sz0_sint16 om_) de_ ?_
    refine HL.val (Y.load1 Tryd.underlying134 rfl ((hR.ext (hx9.thenExt hx12)).tab om_).cell0 rfl) de_ ?_
    refine HL.val (Y.move rfl) de_ ?_
    refine HL.val (Y.add rfl rfl o2_) de_ ?_
    refine HL.val (Y.indexAddrN Tryd.underlying134 rfl rfl sz0_int16 om_ (i := j + 1)) de_ ?_
    refine HL.val (Y.load1 Tryd.underlying133 rfl (by have h9 := (hB.ext (hx9.thenExt hx12)).tab2 (i := i) (j := j + 1) om_ om_; rw [hv01] at h9; exact h9.cell0) rfl) de_ ?_
    refine HL.val (Y.minN rfl rfl) de_ ?_
    refine HL.val (Y.add16 rfl rfl (by have h1 := cst_le (a.drop (i + 1)) (b.drop j); rw [List.length_drop, List.length_drop] at h1; omega)) de_ ?_
    refine HL.val (Y.indexAddrN Tryd.underlying134 rfl rfl sz0_int16 om_) de_ ?_
    refine HL.nil ?_
    refine WL.storeC (i := i * ((bs b).size + 1) + j) rfl (by rw [add_add]; congr 1; omega) rfl rfl rfl kr_ (hB.ext (hx9.thenExt hx12)) ((by rw [tabL_length]; exact row_lt om_ om_)) (fun w13 hc13 hB13_ => ?_)
    have hz13 := hc13.size; have hE := hE.step hc13 (fun k h => by omega)
    have hR := hR.ext (hx9.thenExt hx12)
    have hR := hR.chg hc13 (fun h => hRB h)
    have hB : Blk w13 B 133 (tabL (((bs a).size + 1) * ((bs b).size + 1)) (updL f (i * ((bs b).size + 1) + j) (.int .i16 ((1 + min (cst (a.drop (i + 1)) (b.drop j)) (cst (a.drop i) (b.drop (j + 1))) : Nat) : Int)))) := by rw [← tabL_set]; exact hB13_
    refine WL.nil ?_
    exact ⟨updL f (i * ((bs b).size + 1) + j) (.int .i16 ((1 + min (cst (a.drop (i + 1)) (b.drop j)) (cst (a.drop i) (b.drop (j + 1))) : Nat) : Int)), (by repeat (first | exact Fr.le.nil | refine Fr.le.cons rfl ?_ | refine Fr.le.cons (by show some (Value.int .i64 _) = some (Value.int .i64 _); congr 2; dsimp only; omega) ?_)), hR, hB, (by rw [hsb]; exact hD.put om_ (by rw [drop_cons (l := a) (i := i) om_, drop_cons (l := b) (i := j) om_, cst_cons, if_neg heq, ← drop_cons (l := a) (i := i) om_, ← drop_cons (l := b) (i := j) om_])), hE⟩
   rintro u w14 hj14
   obtain ⟨hR, hB, hD, hE⟩ := hj14
   refine CW.region ?_
   refine WL.m rfl ?_
   refine WL.v (Y.sub rfl rfl o2_) ?_
   refine WL.a rfl ?_
   refine WL.nil ?_
   exact ⟨(j, u), (by show j < j + 1; omega), (by repeat (first | exact Fr.le.nil | refine Fr.le.cons rfl ?_ | refine Fr.le.cons (by show some (Value.int .i64 _) = some (Value.int .i64 _); congr 2; dsimp only; omega) ?_)), (by show j ≤ (bs b).size + 1; omega), hR, hB, hD, hE⟩
  refine CW.exit ?_
  refine hK17 _ _ ?_; try clear hK17
  refine CW.region ?_
  refine WL.m rfl ?_
  refine WL.v (Y.sub rfl rfl o2_) ?_
  refine WL.a rfl ?_
  refine WL.nil ?_
  have hy0 : y = 0 := by omega
  subst hy0
  exact ⟨(i, f), (by show i < i + 1; omega), (by repeat (first | exact Fr.le.nil | refine Fr.le.cons rfl ?_ | refine Fr.le.cons (by show some (Value.int .i64 _) = some (Value.int .i64 _); congr 2; dsimp only; omega) ?_)), (by show i ≤ (bs a).size + 1; omega), hR, hB, (fun _ => hD), hE⟩
 refine CW.exit ?_
 refine hK12 _ _ ?_; try clear hK12
 refine CW.sr fun K29 hK29 => ?_
 refine WL.m rfl ?_
 refine WL.a rfl ?_
 refine WL.nil (hK29 _ _ ?_); try clear hK29
 refine CW.ret ⟨_, rfl, ?_⟩
 have hx0 : x = 0 := by omega
 subst hx0
 have hC := hC (Nat.zero_le _)
 refine ⟨⟨⟨R, 0, none⟩, (bs a).size + 1, by rw [hsa], fun i hi => ⟨(⟨B, 0, none⟩ : Addr).add (i * (b.length + 1) * 1), b.length + 1, ?_, fun j hj => ?_⟩⟩, hE⟩
 ·
  have h9 := hR.tab (i := i) om_
  unfold rowV at h9
  rw [hsb] at h9
  exact h9
 ·
  have h9 := hB.tab2 (i := i) (j := j) om_ om_
  rw [hsb, hC i j om_ om_ om_] at h9
  exact h9
end Go.Proofs.YtmehkigmnpjcjaaDoor
/- recensionref04.Table, walked. No condition but the texts' lengths. -/
namespace Go.Fw
open Go.RowKit Go.Fu
def RowTo (a b : List UInt8) (i : Nat) (f : Nat → Value) (j : Nat) : Prop := ∀ j', j ≤ j' → j' ≤ b.length → f j' = .int .i64 (cst (a.drop i) (b.drop j') : Int)
theorem RowTo.put {a b : List UInt8} {i j : Nat} {f : Nat → Value} {v : Value} (h : RowTo a b i f (j + 1)) (hv : v = .int .i64 (cst (a.drop i) (b.drop j) : Int)) : RowTo a b i (updL f j v) j := fun j' h1 h2 => by
 unfold updL
 by_cases e : j' = j
 ·
  rw [if_pos e, e]; exact hv
 ·
  rw [if_neg e]; exact h j' om_ h2
theorem RowTo.skip {a b : List UInt8} {i j : Nat} {f : Nat → Value} {v : Value} (h : RowTo a b i f (j + 1)) : RowTo a b i (updL f j v) (j + 1) := fun j' h1 h2 => by
 unfold updL
 rw [if_neg om_]; exact h j' h1 h2
end Go.Fw
namespace Go.Proofs.YtmehkigmnpjcjaaDoor
open Go.RowKit Go.Fw Go.Fu Go.Pl
def RowsOk (w : World) (R lim : Nat) (a b : List UInt8) (g : Nat → Value) (i : Nat) : Prop := ∀ i', i ≤ i' → i' ≤ a.length → ∃ q, g i' = .slice (some ⟨q, 0, none⟩) ((bs b).size + 1) ((bs b).size + 1) ∧ q ≠ R ∧ q < lim ∧ Blk w q 3 (tabL ((bs b).size + 1) fun j => .int .i64 (cst (a.drop i') (b.drop j) : Int))
section
variable {w w' : World} {R lim : Nat} {a b : List UInt8} {g : Nat → Value} {i : Nat} {S : Nat → Prop}
theorem RowsOk.chg (h : RowsOk w R lim a b g i) (hc : Chg S w w') (hs : ∀ q, q ≠ R → q < lim → ¬ S q) : RowsOk w' R lim a b g i := fun i' h1 h2 => by
 obtain ⟨q, e, h3, h4, hB⟩ := h i' h1 h2
 exact ⟨q, e, h3, h4, hB.chg hc (hs q h3 h4)⟩
theorem RowsOk.ext (h : RowsOk w R lim a b g i) (hc : Ext w w') : RowsOk w' R lim a b g i := h.chg hc fun _ _ _ f => f
theorem RowsOk.grow {l2 : Nat} (h : RowsOk w R lim a b g i) (hl : lim ≤ l2) : RowsOk w R l2 a b g i := fun i' h1 h2 => by
 obtain ⟨q, e, h3, h4, hB⟩ := h i' h1 h2
 exact ⟨q, e, h3, by omega, hB⟩
end
end Go.Proofs.YtmehkigmnpjcjaaDoor
/- Ranges over maps that the loop leaves alone, as rules of the calculus. No condition; no program. -/
namespace Go.Fw
open Go.RowKit
structure Going {β : Type} (w : World) (r b : Nat) (me : β → MapEntry) (l : List β) (cl : Nat) (vs : List β) : Prop where
 map : MapAt w b me l cl
 iter : w.heap[r]? = some (.mapIter (some b) cl (vs.map fun e => (me e).born).toArray cl)
 old : ∀ e ∈ l, (me e).born < cl
 born : (l.map fun e => (me e).born).Nodup
 sub : ∀ e ∈ vs, e ∈ l
 once : vs.Nodup
section
variable {β : Type} {w w' : World} {r b : Nat} {me : β → MapEntry} {l : List β} {cl : Nat} {vs : List β} {S : Nat → Prop}
theorem Going.lt (h : Going w r b me l cl vs) : r < w.heap.size ∧ b < w.heap.size := ⟨(Array.getElem?_eq_some_iff.1 h.iter).1, h.map.lt⟩
theorem Going.ne (h : Going w r b me l cl vs) : r ≠ b := by
 rintro rfl
 have := h.iter.symm.trans h.map
 cases this
theorem Going.chg (h : Going w r b me l cl vs) (hc : Chg S w w') (hr : ¬ S r) (hb : ¬ S b) : Going w' r b me l cl vs :=
 ⟨h.map.chg hc hb, (hc.block r h.lt.1 hr).trans h.iter, h.old, h.born, h.sub, h.once⟩
theorem Going.ext (h : Going w r b me l cl vs) (hc : Ext w w') : Going w' r b me l cl vs := h.chg hc (fun f => f) (fun f => f)
theorem Going.inj (h : Going w r b me l cl vs) {x y : β} (hx : x ∈ l) (hy : y ∈ l) (he : (me x).born = (me y).born) : x = y := by
 obtain ⟨i, hi⟩ := List.mem_iff_getElem?.1 hx
 obtain ⟨j, hj⟩ := List.mem_iff_getElem?.1 hy
 have h1 : (l.map fun e => (me e).born)[i]? = some (me x).born := by simp [hi]
 have h2 : (l.map fun e => (me e).born)[j]? = some (me x).born := by simp [hj, he]
 have hlt := (List.getElem?_eq_some_iff.1 h1).1
 have e := (List.getElem?_inj hlt h.born).1 (h1.trans h2.symm)
 subst e
 exact Option.some.inj (hi.symm.trans hj)
theorem Going.nodup (h : Going w r b me l cl vs) : l.Nodup := by
 have := h.born
 rw [List.Nodup, List.pairwise_map] at this
 exact this.imp fun hne e => hne (by rw [e])
theorem Going.perm (h : Going w r b me l cl vs) (ha : ∀ e ∈ l, e ∈ vs) : vs.Perm l := (List.perm_ext_iff_of_nodup h.once h.nodup).2 fun e => ⟨h.sub e, ha e⟩
theorem Going.few (h : Going w r b me l cl vs) : vs.length ≤ l.length := by
 obtain ⟨l', hp, hs⟩ : ∃ l', vs.Perm l' ∧ l'.Sublist l := by
  refine ⟨l.filter (fun e => @decide (e ∈ vs) (Classical.propDecidable _)), (List.perm_ext_iff_of_nodup h.once (h.nodup.sublist List.filter_sublist)).2 fun e => ?_, List.filter_sublist⟩
  simp only [List.mem_filter, decide_eq_true_eq]
  exact ⟨fun x => ⟨h.sub e x, x⟩, fun x => x.2⟩
 rw [hp.length_eq]
 exact hs.length_le
variable {P : Program} {n : NN} {fr : Fr} {ty : TypeId}
theorem St.range {x : Operand} {t k e : TypeId} (hT : P.underlying t = some (.map k e)) (hx : ev fr x = some (.map (some b))) (hm : MapAt w b me l cl) (ho : ∀ e ∈ l, (me e).born < cl) (hn : (l.map fun e => (me e).born).Nodup) :
  St P n fr (.range t x) ty w (fun v w' => ∃ r, v = .pointer (some ⟨r, 0, none⟩) ∧ w.heap.size ≤ r ∧ Going w' r b me l cl [] ∧ Ext w w') := fun a o' hop hty ha => by
 refine ⟨_, _, ?_, w.heap.size, rfl, Nat.le_refl _, ⟨hm.ext (Chg.alloc _), heap_alloc_new w _, ho, hn, (fun e h => by simp at h), List.nodup_nil⟩, Chg.alloc _⟩
 simp only [execOp, hop, ha.ev hx, Sem.run_bind]
 rw [run_range_map w t k e b _ cl hT hm]
 rfl
theorem St.next {x : Operand} (hx : ev fr x = some (.pointer (some ⟨r, 0, none⟩))) (hg : Going w r b me l cl vs) :
  St P n fr (.next x false) ty w (fun v w' => ∃ bt rest, v = .tuple (.bool bt :: rest).toArray ∧ Chg (· = r) w w' ∧
   ((bt = true ∧ ∃ e, e ∈ l ∧ e ∉ vs ∧ Going w' r b me l cl (vs ++ [e])) ∨ (bt = false ∧ (∀ e ∈ l, e ∈ vs) ∧ Going w' r b me l cl vs))) := fun a o' hop hty ha => by
 have hold : ∀ y ∈ (l.map me).toArray.toList, y.born < cl := by
  intro y hy
  simp only [List.mem_map] at hy
  obtain ⟨e, he, rfl⟩ := hy
  exact hg.old e he
 rcases run_next_at (P := P) w o'.type r b cl cl _ _ cl hg.iter hg.map hold (Nat.le_refl _) with ⟨h0, hrun⟩ | ⟨e, he, w1, hw1, hrun⟩
 ·
  refine ⟨_, w, ?_, false, [], rfl, Chg.refl, .inr ⟨rfl, fun e he => ?_, hg⟩⟩
  ·
   simp only [execOp, hop, ha.ev hx, Sem.run_bind]
   rw [hrun]; rfl
  ·
   have := all_seen _ _ h0 (me e) (by simp only [List.mem_map]; exact ⟨e, he, rfl⟩)
   simp only [List.contains_toArray, List.contains_eq_mem, List.mem_map, decide_eq_true_eq] at this
   obtain ⟨y, hy, hyb⟩ := this
   have := hg.inj (hg.sub y hy) he hyb
   exact this ▸ hy
 ·
  obtain ⟨hem, hes⟩ := mem_left he
  simp only [List.mem_map] at hem
  obtain ⟨x0, hx0, rfl⟩ := hem
  have hnv : x0 ∉ vs := fun h => by
   simp only [List.contains_toArray, List.contains_eq_mem, List.mem_map, decide_eq_false_iff_not] at hes
   exact hes ⟨x0, h, rfl⟩
  have hx1 : Ext w w1 := by rcases hw1 with rfl | rfl; exact Chg.refl; exact Chg.drew
  have hz1 : r < w1.heap.size := Nat.lt_of_lt_of_le hg.lt.1 hx1.size
  refine ⟨.tuple #[.bool true, (me x0).key, (me x0).val], { w1 with heap := w1.heap.setIfInBounds r (.mapIter (some b) cl ((vs.map fun e => (me e).born).toArray.push (me x0).born) cl) }, ?_, true, [(me x0).key, (me x0).val], rfl, hx1.chg.trans (T := fun k => k = r) (chg_setBlock rfl) (fun _ _ h => h), .inl ⟨rfl, x0, hx0, hnv, ?_⟩⟩
  ·
   simp only [execOp, hop, ha.ev hx, Sem.run_bind]
   rw [hrun]; rfl
  ·
   refine ⟨(hg.map.ext hx1).chg (chg_setBlock (S := fun k => k = r) rfl) (fun h => hg.ne (Eq.symm h)), ?_, hg.old, hg.born, fun e he => ?_, ?_⟩
   ·
    have := heap_setBlock (w := w1) (o := .mapIter (some b) cl ((vs.map fun e => (me e).born).toArray.push (me x0).born) cl) hz1
    rw [List.map_append, List.map_cons, List.map_nil, ← List.push_toArray]
    exact this
   ·
    rcases List.mem_append.1 he with h | h
    ·
     exact hg.sub e h
    ·
     simp at h; subst h; exact hx0
   ·
    rw [List.nodup_append]
    refine ⟨hg.once, by simp, fun a ha c hc => ?_⟩
    simp at hc; subst hc
    exact fun e => hnv (e ▸ ha)
theorem Y.entry {x : Operand} {e : β} (hx : ev fr x = some (.pointer (some ⟨r, 0, none⟩))) (hg : Going w r b me l cl (vs ++ [e])) : Yw P n fr (.entry x) ty w (.tuple #[(me e).key, (me e).val]) w := fun a o' hop _ ha => by
 have hit := hg.iter
 rw [List.map_append, List.map_cons, List.map_nil, ← List.push_toArray] at hit
 have := run_entry_at (P := P) w r b cl _ _ cl (me e) hit hg.map (by simp only [List.mem_map]; exact ⟨e, hg.sub e (by simp), rfl⟩) (by
  have := hg.born
  simpa [List.map_map, Function.comp_def] using this)
 simp only [execOp, hop, ha.ev hx, Sem.run_bind]
 rw [this]; rfl
theorem Y.extractT {x : Operand} {v : Value} {vs : List Value} (hx : ev fr x = some (.tuple (v :: vs).toArray)) : Yw P n fr (.extract x 0) ty w v w := Y.extract hx (by simp)
end
end Go.Fw
