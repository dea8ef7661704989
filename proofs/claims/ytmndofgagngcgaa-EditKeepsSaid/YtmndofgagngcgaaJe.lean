/- diff.costs, walked. No condition but the texts' lengths. -/
import Derived.Test.YtmndofgagngcgaaG8
import Derived.Test.YtmndofgagngcgaaQv
import Derived.Test.YtmndofgagngcgaaG5
import Derived.Test.YtmndofgagngcgaaQq
set_option linter.unusedSimpArgs false
set_option linter.unusedVariables false
namespace Go.Fw
open Go.RowKit Go.Fu
theorem Y.slice3 {P : Program} {n : NN} {fr : Fr} {w : World} {x lo hi mx : Operand} {t e ty : TypeId} {a : Addr} {m c k i d : Nat} {ki kj kl : IntKind} {zi zj zl : Int} (hT : P.underlying t = some (.slice e)) (hx : ev fr x = some (.slice (some a) m c)) (hlo : ev fr lo = some (.int ki zi)) (hhi : ev fr hi = some (.int kj zj)) (hmx : ev fr mx = some (.int kl zl))
    (hS : (P.info? e).map (·.size) = some k) (hi' : zi = (i : Int)) (hj' : zj = ((i + d : Nat) : Int)) (hl' : zl = ((i + d : Nat) : Int)) (h1 : i + d ≤ c) (h2 : 0 < d) : Yw P n fr (.slice t x (some lo) (some hi) (some mx)) ty w (.slice (some (a.add (i * k))) d d) w := fun b o' ho _ ha => by
  subst hi'; subst hj'; subst hl'
  have e1 : (0 : Int) ≤ (i : Int) := by omega
  have e2 : (0 : Int) ≤ ((i + d : Nat) : Int) := by omega
  have e3 : i ≤ i + d := by omega
  have e4 : i + d - i = d := by omega
  have e5 : ¬ i + d = i := by omega
  have e6 : ¬ d = 0 := by omega
  simp only [execOp, ho, ha.ev hx, ha.ev hlo, ha.ev hhi, ha.ev hmx, Option.map_some]
  have e7 : ((i : Int) + (d : Int)).toNat = i + d := by omega
  have e8 : (0 : Int) ≤ (i : Int) + (d : Int) := by omega
  have e9 : (i : Int) + (d : Int) ≤ (c : Int) := by omega
  have e10 : max ((i : Int) + (d : Int)) 0 = (i : Int) + (d : Int) := by omega
  simp [Instr.sliceAt, Instr.slice, run_underlying hT, Instr.sliceBounds, Instr.sliceBound, asIntOf, e1, e7, e8, e9, e10, e3, e4, e5, e6, fw_sizeOf hS]
theorem Y.minN {P : Program} {n : NN} {fr : Fr} {w : World} {ty : TypeId} {x y : Operand} {k : IntKind} {p q : Nat} {t t' : TypeId} (hx : ev fr x = some (.int k (p : Int))) (hy : ev fr y = some (.int k (q : Int))) :
    Yw P n fr (.call { callee := .builtin .min, args := #[x, y], argTypes := #[t, t'] }) ty w (.int k ((min p q : Nat) : Int)) w := fun a o' ho _ ha => by
  simp [execOp, ho, resolve, invoke, builtin, ha.ev hx, ha.ev hy, Builtin.min_, Builtin.min2]
  split <;> omega
theorem wrap16 {p : Nat} (h : p < 32768) : IntKind.i16.wrap (p : Int) = (p : Int) := by simp [IntKind.wrap, IntKind.bits, IntKind.signed]; omega
theorem Y.add16 {P : Program} {n : NN} {fr : Fr} {w : World} {ty : TypeId} {x y : Operand} {p : Nat} {t t' : TypeId} (hx : ev fr x = some (.int .i16 1)) (hy : ev fr y = some (.int .i16 (p : Int))) (h : p < 32000) : Yw P n fr (.binOp .add t x y t') ty w (.int .i16 ((1 + p : Nat) : Int)) w := by
  have := Y.add_k (P := P) (n := n) (w := w) (ty := ty) (t := t) (t' := t') hx hy
  rwa [show (1 : Int) + (p : Int) = ((1 + p : Nat) : Int) by omega, wrap16 (by omega)] at this
theorem mulB {p q B : Nat} (hp : p * (q + 1) ≤ B) : 0 ≤ (p : Int) * ((q : Int) + 1) ∧ (p : Int) * ((q : Int) + 1) ≤ B := by
  rw [show (p : Int) * ((q : Int) + 1) = ((p * (q + 1) : Nat) : Int) by rw [Int.natCast_mul]; rfl]; omega
theorem mulB1 {p q B : Nat} (hp : (p + 1) * (q + 1) ≤ B) : 0 ≤ ((p : Int) + 1) * ((q : Int) + 1) ∧ ((p : Int) + 1) * ((q : Int) + 1) ≤ B := mulB (p := p + 1) hp
theorem row_lt {i j N W : Nat} (hi : i < N) (hj : j < W) : i * W + j < N * W := by
  have h1 : (i + 1) * W ≤ N * W := Nat.mul_le_mul_right W hi
  rw [Nat.succ_mul] at h1
  omega
theorem row_eq {i j i' j' W : Nat} (hj : j < W) (hj' : j' < W) (h : i' * W + j' = i * W + j) : i' = i ∧ j' = j := by
  have h1 : (i * W + j) / W = i := Nat.div_eq_of_lt_le (by omega) (by rw [Nat.succ_mul]; omega)
  have h2 : (i' * W + j') / W = i' := Nat.div_eq_of_lt_le (by omega) (by rw [Nat.succ_mul]; omega)
  have h3 : i' = i := by rw [← h1, ← h2, h]
  subst h3
  exact ⟨rfl, by omega⟩
theorem Blk.tab2 {w : World} {B N W i j : Nat} {T : TypeId} {f : Nat → Value} (h : Blk w B T (tabL (N * W) f)) (hi : i < N) (hj : j < W) : Mem w (((⟨B, 0, none⟩ : Addr).add (i * W * 1)).add (j * 1)) [f (i * W + j)] := by
  have := h.tab (row_lt hi hj)
  rw [add_add, show i * W * 1 + j * 1 = (i * W + j) * 1 by omega]
  exact this
/-- What is reckoned so far. -/
def CostTo (a b : List UInt8) (f : Nat → Value) (i j : Nat) : Prop := ∀ i' j', i' ≤ a.length → j' ≤ b.length → (i < i' ∨ (i' = i ∧ j ≤ j')) → f (i' * (b.length + 1) + j') = .int .i16 (cst (a.drop i') (b.drop j') : Int)
theorem CostTo.put {a b : List UInt8} {f : Nat → Value} {i j v : Nat} (h : CostTo a b f i (j + 1)) (hj : j ≤ b.length) (hv : v = cst (a.drop i) (b.drop j)) : CostTo a b (updL f (i * (b.length + 1) + j) (.int .i16 (v : Int))) i j := by
  intro i' j' h1 h2 h3
  unfold updL
  by_cases e : i' * (b.length + 1) + j' = i * (b.length + 1) + j
  · rw [if_pos e]
    obtain ⟨rfl, rfl⟩ := row_eq (by omega) (by omega) e
    rw [hv]
  · rw [if_neg e]
    refine h i' j' h1 h2 ?_
    rcases h3 with h3 | ⟨rfl, h3⟩
    · exact .inl h3
    · refine .inr ⟨rfl, ?_⟩
      rcases Nat.lt_or_ge j j' with h4 | h4
      · exact h4
      · exact absurd (by rw [show j' = j by omega]) e
theorem CostTo.up {a b : List UInt8} {f : Nat → Value} {i : Nat} (h : CostTo a b f i 0) : CostTo a b f i 0 := h
theorem CostTo.next {a b : List UInt8} {f : Nat → Value} {i : Nat} (h : CostTo a b f (i + 1) 0) : CostTo a b f i (b.length + 1) := fun i' j' h1 h2 h3 => h i' j' h1 h2 (by
  rcases h3 with h3 | ⟨_, h3⟩
  · rcases Nat.lt_or_ge (i + 1) i' with h4 | h4
    · exact .inl h4
    · exact .inr ⟨by omega, by omega⟩
  · omega)
theorem drop_cons {l : List UInt8} {i : Nat} (h : i < l.length) : l.drop i = l[i] :: l.drop (i + 1) := List.drop_eq_getElem_cons h
theorem bs_get {l : List UInt8} {i : Nat} (h : i < l.length) (h' : i < (bs l).size) : (bs l)[i] = l[i] := rfl
end Go.Fw
namespace Go.Proofs.Ytmndofgagngcgaa
open Go.RowKit Go.Fw Go.Fu Go.Pl
theorem sz0_int16 : (Try.prog.info? 111).map (·.size) = some 1 := by kernel_rfl
theorem sz_int16 (v : Value) : (Try.prog.info? 111).map (·.size) = some [v].length := sz0_int16
theorem sz0_sint16 : (Try.prog.info? 112).map (·.size) = some 1 := by kernel_rfl
theorem mi_i16 : MakeInfo Try.prog 111 [.int .i16 0] 2 := by
  have h : (Try.prog.info? 111).map (fun i => (i.zero, i.size, i.bytes)) = some (some (.int .i16 0), 1, 2) := by kernel_rfl
  obtain ⟨i, hi, h⟩ := Option.map_eq_some_iff.1 h
  injection h with h1 h2
  injection h2 with h2 h3
  exact ⟨i, _, hi, h1, rfl, h2, h3⟩
theorem mi_s16 : MakeInfo Try.prog 112 [.slice none 0 0] 24 := by
  have h : (Try.prog.info? 112).map (fun i => (i.zero, i.size, i.bytes)) = some (some (.slice none 0 0), 1, 24) := by kernel_rfl
  obtain ⟨i, hi, h⟩ := Option.map_eq_some_iff.1 h
  injection h with h1 h2
  injection h2 with h2 h3
  exact ⟨i, _, hi, h1, rfl, h2, h3⟩
theorem rep_one {n : Nat} {v : Value} : (List.replicate n [v]).flatten = tabL n fun _ => v := by
  rw [← tabL_const]
  induction n with
  | zero => rfl
  | succ n ih => rw [List.replicate_succ, List.flatten_cons, ih]; rfl
abbrev rowV (B W i : Nat) : Value := .slice (some ((⟨B, 0, none⟩ : Addr).add (i * W * 1))) W W

set_option maxRecDepth 100000 in
set_option maxHeartbeats 4000000 in
theorem costs_any (a b : List UInt8) (w : World) (ha : a.length ≤ 1000) (hb : b.length ≤ 1000) : Calls Try.prog 44 #[.string (bs a), .string (bs b)] w (Ret fun v w' => TabR w' .i16 v (a.length + 1) (b.length + 1) (fun i j => (cst (a.drop i) (b.drop j) : Int)) ∧ Ext w w') := by
  have hsa := bs_size a
  have hsb := bs_size b
  have hNW : ((bs a).size + 1) * ((bs b).size + 1) ≤ 1002001 := Nat.le_trans (Nat.mul_le_mul (show (bs a).size + 1 ≤ 1001 by omega) (show (bs b).size + 1 ≤ 1001 by omega)) (by decide)
  have hNWi := mulB1 hNW
  refine calls_of_CW 138 [4] [(0, .string (bs a)), (1, .string (bs b))] Try.func44 rfl rfl rfl (by simp) args2 ?_
  have hE : Ext w w := Chg.refl
  refine CW.seq fun K1 hK1 => ?_
  refine CW.region ?_
  refine WL.val (Y.assign rfl) (by decide) ?_
  refine WL.nil ?_
  refine hK1 _ _ ?_; try clear hK1 K1
  refine CW.seq fun K2 hK2 => ?_
  refine CW.region ?_
  refine WL.val (Y.move rfl) (by decide) ?_
  refine WL.val (Y.len_string Try.underlying9 rfl) (by decide) ?_
  refine WL.val (Y.add rfl rfl ⟨by omega, by omega⟩) (by decide) ?_
  refine WL.val (Y.assign rfl) (by decide) ?_
  refine WL.nil ?_
  refine hK2 _ _ ?_; try clear hK2 K2
  refine CW.seq fun K3 hK3 => ?_
  refine CW.region ?_
  refine WL.val (Y.move rfl) (by decide) ?_
  refine WL.val (Y.len_string Try.underlying9 rfl) (by decide) ?_
  refine WL.val (Y.add rfl rfl ⟨by omega, by omega⟩) (by decide) ?_
  refine WL.val (Y.move rfl) (by decide) ?_
  refine WL.val (Y.mul rfl rfl ⟨by omega, by omega⟩) (by decide) ?_
  refine WL.st (St.makeK (m := ((bs a).size + 1) * ((bs b).size + 1)) Try.underlying112 mi_i16 rfl rfl (by omega) (by omega)) (by decide) fun v19 w1 hR1 => ?_
  obtain ⟨B, rfl, hgB, hB, hx1⟩ := hR1
  have hz1 := hx1.size
  rw [rep_one] at hB
  have hE := hE.thenExt hx1
  have hltB := hB.lt
  refine WL.val (Y.assign rfl) (by decide) ?_
  refine WL.nil ?_
  refine hK3 _ _ ?_; try clear hK3 K3
  refine CW.seq fun K4 hK4 => ?_
  refine CW.region ?_
  refine WL.val (Y.move rfl) (by decide) ?_
  refine WL.val (Y.len_string Try.underlying9 rfl) (by decide) ?_
  refine WL.val (Y.add rfl rfl ⟨by omega, by omega⟩) (by decide) ?_
  refine WL.st (St.makeK (m := ((bs a).size + 1)) Try.underlying108 mi_s16 rfl rfl (by omega) (by omega)) (by decide) fun v23 w2 hR2 => ?_
  obtain ⟨R, rfl, hgR, hR, hx2⟩ := hR2
  have hz2 := hx2.size
  rw [rep_one] at hR
  have hE := hE.thenExt hx2
  have hB := hB.ext hx2
  have hRB : R ≠ B := by omega
  refine WL.val (Y.assign rfl) (by decide) ?_
  refine WL.nil ?_
  refine hK4 _ _ ?_; try clear hK4 K4
  refine CW.seq fun K5 hK5 => ?_
  refine CW.seq fun K6 hK6 => ?_
  refine CW.region ?_
  refine WL.val (Y.move rfl) (by decide) ?_
  refine WL.val (Y.len_slice Try.underlying108 rfl) (by decide) ?_
  refine WL.val (Y.move rfl) (by decide) ?_
  refine WL.nil ?_
  refine hK6 _ _ ?_; try clear hK6 K6
  refine CW.block ?_
  refine CW.loop (X := Nat) (fun x => [(0, .string (bs a)), (1, .string (bs b)), (7, .slice (some ⟨R, 0, none⟩) ((bs a).size + 1) ((bs a).size + 1)), (5, .int .i64 ((((bs b).size + 1) : Nat) : Int)), (6, .slice (some ⟨B, 0, none⟩) (((bs a).size + 1) * ((bs b).size + 1)) (((bs a).size + 1) * ((bs b).size + 1))), (25, .int .i64 ((((bs a).size + 1) : Nat) : Int)), (26, .int .i64 (x : Int))]) (fun x w0 => x ≤ ((bs a).size + 1) ∧ (∃ g, Blk w0 R 112 (tabL ((bs a).size + 1) g) ∧ ∀ i, i < x → g i = rowV B ((bs b).size + 1) i) ∧ Blk w0 B 111 (tabL (((bs a).size + 1) * ((bs b).size + 1)) fun _ => .int .i16 0) ∧ Ext w w0) (fun x => ((bs a).size + 1) - x) 0 (by repeat (first | exact Fr.le.nil | refine Fr.le.cons rfl ?_ | refine Fr.le.cons (by show some (Value.int .i64 _) = some (Value.int .i64 _); congr 2; dsimp only; omega) ?_)) ⟨Nat.zero_le _, ⟨_, hR, fun i h => by omega⟩, hB, hE⟩ ?_
  intro x w3 hl3
  obtain ⟨hxm, ⟨g, hR, hg⟩, hB, hE⟩ := hl3
  have hltR := hR.lt
  have hxW : x * ((bs b).size + 1) ≤ ((bs a).size + 1) * ((bs b).size + 1) := Nat.mul_le_mul_right _ hxm
  have hxWi := mulB (Nat.le_trans hxW hNW)
  have hx1W : x < ((bs a).size + 1) → (x + 1) * ((bs b).size + 1) ≤ ((bs a).size + 1) * ((bs b).size + 1) := fun h => Nat.mul_le_mul_right _ h
  refine CW.seq fun K7 hK7 => ?_
  refine CW.region ?_
  refine WL.val (Y.lss rfl rfl) (by decide) ?_
  refine WL.nil ?_
  refine hK7 _ _ ?_; try clear hK7 K7
  refine CW.seq fun K8 hK8 => ?_
  first | refine CW.condD rfl (fun ht9 => ?_) (fun ht9 => ?_) | refine CW.condND rfl (fun ht9 => ?_) (fun ht9 => ?_) | refine CW.condN rfl (fun ht9 => ?_) (fun ht9 => ?_) | refine CW.cond rfl (fun ht9 => ?_) (fun ht9 => ?_)
  · -- then
    refine CW.skip ?_
    refine hK8 _ _ ?_; try clear hK8 K8
    refine CW.seq fun K10 hK10 => ?_
    refine CW.block ?_
    refine CW.seq fun K11 hK11 => ?_
    refine CW.region ?_
    refine WL.val (Y.move rfl) (by decide) ?_
    refine WL.val (Y.assign rfl) (by decide) ?_
    refine WL.nil ?_
    refine hK11 _ _ ?_; try clear hK11 K11
    have hx1W2 := hx1W (by omega)
    have hx1Wi := mulB1 (Nat.le_trans hx1W2 hNW)
    have hx1Wj : 0 ≤ ((x : Int) + 1) * (((bs b).size + 1 : Nat) : Int) ∧ ((x : Int) + 1) * (((bs b).size + 1 : Nat) : Int) ≤ ((1002001 : Nat) : Int) := hx1Wi
    refine CW.region ?_
    refine WL.val (Y.move rfl) (by decide) ?_
    refine WL.val (Y.move rfl) (by decide) ?_
    refine WL.val (Y.move rfl) (by decide) ?_
    refine WL.val (Y.move rfl) (by decide) ?_
    refine WL.val (Y.move rfl) (by decide) ?_
    refine WL.val (Y.mul rfl rfl ⟨by omega, by omega⟩) (by decide) ?_
    refine WL.val (Y.move rfl) (by decide) ?_
    refine WL.val (Y.add rfl rfl ⟨by omega, by omega⟩) (by decide) ?_
    refine WL.val (Y.move rfl) (by decide) ?_
    refine WL.val (Y.mul rfl rfl ⟨by omega, by omega⟩) (by decide) ?_
    refine WL.val (Y.move rfl) (by decide) ?_
    refine WL.val (Y.add rfl rfl ⟨by omega, by omega⟩) (by decide) ?_
    refine WL.val (Y.move rfl) (by decide) ?_
    refine WL.val (Y.mul rfl rfl ⟨by omega, by omega⟩) (by decide) ?_
    refine WL.val (Y.slice3 (i := x * ((bs b).size + 1)) (d := ((bs b).size + 1)) Try.underlying112 rfl rfl rfl rfl sz0_int16 (by first | (rw [Int.natCast_mul]; done) | (rw [Int.natCast_mul]; rfl)) (by first | (rw [← Nat.succ_mul, Int.natCast_mul]; done) | (rw [← Nat.succ_mul, Int.natCast_mul]; rfl)) (by first | (rw [← Nat.succ_mul, Int.natCast_mul]; done) | (rw [← Nat.succ_mul, Int.natCast_mul]; rfl)) (by rw [← Nat.succ_mul]; exact hx1W (by omega)) (by omega)) (by decide) ?_
    refine WL.val (Y.indexAddrN Try.underlying108 rfl rfl sz0_sint16 (by omega)) (by decide) ?_
    refine WL.storeC (i := x) rfl rfl rfl rfl rfl (by kernel_rfl) hR ((by rw [tabL_length]; omega)) (fun w4 hc4 hB4_ => ?_)
    have hz4 := hc4.size; have hE := hE.step hc4 (fun k h => by omega)
    have hB := hB.chg hc4 (fun h => hRB h.symm)
    rw [tabL_set] at hB4_
    refine WL.nil ?_
    refine hK10 _ _ ?_; try clear hK10 K10
    refine CW.region ?_
    refine WL.val (Y.add rfl rfl ⟨by omega, by omega⟩) (by decide) ?_
    refine WL.val (Y.move rfl) (by decide) ?_
    refine WL.nil ?_
    exact ⟨x + 1, (by show ((bs a).size + 1) - (x + 1) < ((bs a).size + 1) - x; omega), (by repeat (first | exact Fr.le.nil | refine Fr.le.cons rfl ?_ | refine Fr.le.cons (by show some (Value.int .i64 _) = some (Value.int .i64 _); congr 2; dsimp only; omega) ?_)), (by show x + 1 ≤ ((bs a).size + 1); omega), ⟨_, hB4_, fun i h => by unfold updL; by_cases e : i = x; (rw [if_pos e, e]); (rw [if_neg e]; exact hg i (by omega))⟩, hB, hE⟩
  refine CW.exit ?_
  refine hK5 _ _ ?_; try clear hK5 K5
  refine CW.seq fun K12 hK12 => ?_
  refine CW.seq fun K13 hK13 => ?_
  refine CW.region ?_
  refine WL.val (Y.move rfl) (by decide) ?_
  refine WL.val (Y.len_string Try.underlying9 rfl) (by decide) ?_
  refine WL.val (Y.assign rfl) (by decide) ?_
  refine WL.nil ?_
  refine hK13 _ _ ?_; try clear hK13 K13
  refine CW.block ?_
  refine CW.loop (X := Nat × (Nat → Value)) (fun x => [(0, .string (bs a)), (1, .string (bs b)), (7, .slice (some ⟨R, 0, none⟩) ((bs a).size + 1) ((bs a).size + 1)), (9, .int .i64 ((x.1 : Int) - 1))]) (fun x w0 => x.1 ≤ ((bs a).size + 1) ∧ Blk w0 R 112 (tabL ((bs a).size + 1) (rowV B ((bs b).size + 1))) ∧ Blk w0 B 111 (tabL (((bs a).size + 1) * ((bs b).size + 1)) x.2) ∧ (x.1 ≤ a.length → CostTo a b x.2 x.1 0) ∧ Ext w w0) (fun x => x.1) ((bs a).size + 1, fun _ => .int .i16 0) (by repeat (first | exact Fr.le.nil | refine Fr.le.cons rfl ?_ | refine Fr.le.cons (by show some (Value.int .i64 _) = some (Value.int .i64 _); congr 2; dsimp only; omega) ?_)) ⟨Nat.le_refl _, by have e : tabL ((bs a).size + 1) g = tabL ((bs a).size + 1) (rowV B ((bs b).size + 1)) := List.map_congr_left fun i hi => hg i (by have := List.mem_range.1 hi; omega); rw [← e]; exact hR, hB, (fun h => by have h : (bs a).size + 1 ≤ a.length := h; omega), hE⟩ ?_
  intro x w5 hl5
  obtain ⟨x, f⟩ := x
  dsimp only at hl5 ⊢
  obtain ⟨hxm, hR, hB, hC, hE⟩ := hl5
  refine CW.seq fun K14 hK14 => ?_
  refine CW.seq fun K15 hK15 => ?_
  refine CW.region ?_
  refine WL.val (Y.move rfl) (by decide) ?_
  refine WL.val (Y.geq rfl rfl) (by decide) ?_
  refine WL.nil ?_
  refine hK15 _ _ ?_; try clear hK15 K15
  first | refine CW.condD rfl (fun ht16 => ?_) (fun ht16 => ?_) | refine CW.condND rfl (fun ht16 => ?_) (fun ht16 => ?_) | refine CW.condN rfl (fun ht16 => ?_) (fun ht16 => ?_) | refine CW.cond rfl (fun ht16 => ?_) (fun ht16 => ?_)
  · -- then
    refine CW.skip ?_
    refine hK14 _ _ ?_; try clear hK14 K14
    refine CW.seq fun K17 hK17 => ?_
    refine CW.block ?_
    refine CW.seq fun K18 hK18 => ?_
    obtain ⟨i, rfl⟩ : ∃ i, x = i + 1 := ⟨x - 1, by omega⟩
    rw [show (((i + 1 : Nat) : Int) - 1) = (i : Int) by omega]
    refine CW.region ?_
    refine WL.val (Y.move rfl) (by decide) ?_
    refine WL.val (Y.len_string Try.underlying9 rfl) (by decide) ?_
    refine WL.val (Y.assign rfl) (by decide) ?_
    refine WL.nil ?_
    refine hK18 _ _ ?_; try clear hK18 K18
    refine CW.block ?_
    refine CW.loop (X := Nat × (Nat → Value)) (fun x => [(0, .string (bs a)), (1, .string (bs b)), (7, .slice (some ⟨R, 0, none⟩) ((bs a).size + 1) ((bs a).size + 1)), (9, .int .i64 (i : Int)), (10, .int .i64 ((x.1 : Int) - 1))]) (fun x w0 => x.1 ≤ ((bs b).size + 1) ∧ Blk w0 R 112 (tabL ((bs a).size + 1) (rowV B ((bs b).size + 1))) ∧ Blk w0 B 111 (tabL (((bs a).size + 1) * ((bs b).size + 1)) x.2) ∧ CostTo a b x.2 i x.1 ∧ Ext w w0) (fun x => x.1) ((bs b).size + 1, f) (by repeat (first | exact Fr.le.nil | refine Fr.le.cons rfl ?_ | refine Fr.le.cons (by show some (Value.int .i64 _) = some (Value.int .i64 _); congr 2; dsimp only; omega) ?_)) ⟨Nat.le_refl _, hR, hB, (by show CostTo a b f i ((bs b).size + 1); rw [hsb]; by_cases h : i + 1 ≤ a.length; exact (hC h).next; exact fun i1 j1 h1 h2 h3 => by omega), hE⟩ ?_
    intro x w6 hl6
    obtain ⟨y, f⟩ := x
    dsimp only at hl6 ⊢
    obtain ⟨hym, hR, hB, hD, hE⟩ := hl6
    have hltB := hB.lt
    refine CW.seq fun K19 hK19 => ?_
    refine CW.seq fun K20 hK20 => ?_
    refine CW.region ?_
    refine WL.val (Y.move rfl) (by decide) ?_
    refine WL.val (Y.geq rfl rfl) (by decide) ?_
    refine WL.nil ?_
    refine hK20 _ _ ?_; try clear hK20 K20
    first | refine CW.condD rfl (fun ht21 => ?_) (fun ht21 => ?_) | refine CW.condND rfl (fun ht21 => ?_) (fun ht21 => ?_) | refine CW.condN rfl (fun ht21 => ?_) (fun ht21 => ?_) | refine CW.cond rfl (fun ht21 => ?_) (fun ht21 => ?_)
    · -- then
      refine CW.skip ?_
      refine hK19 _ _ ?_; try clear hK19 K19
      obtain ⟨j, rfl⟩ : ∃ j, y = j + 1 := ⟨y - 1, by omega⟩
      rw [show (((j + 1 : Nat) : Int) - 1) = (j : Int) by omega]
      refine CW.seq_to (X := Nat → Value) (fun _ => [(0, .string (bs a)), (1, .string (bs b)), (7, .slice (some ⟨R, 0, none⟩) ((bs a).size + 1) ((bs a).size + 1)), (9, .int .i64 (i : Int)), (10, .int .i64 (j : Int))]) (fun f2 w0 => Blk w0 R 112 (tabL ((bs a).size + 1) (rowV B ((bs b).size + 1))) ∧ Blk w0 B 111 (tabL (((bs a).size + 1) * ((bs b).size + 1)) f2) ∧ CostTo a b f2 i j ∧ Ext w w0) ?_ ?_
      · skip
        refine CW.block ?_
        refine CW.block ?_
        refine CW.seq fun K23 hK23 => ?_
        refine CW.region ?_
        refine WL.val (Y.move rfl) (by decide) ?_
        refine WL.val (Y.move rfl) (by decide) ?_
        refine WL.val (Y.len_string Try.underlying9 rfl) (by decide) ?_
        refine WL.val (Y.eql rfl rfl) (by decide) ?_
        refine WL.val (Y.assign rfl) (by decide) ?_
        refine WL.nil ?_
        refine hK23 _ _ ?_; try clear hK23 K23
        first | refine CW.condD rfl (fun ht24 => ?_) (fun ht24 => ?_) | refine CW.condND rfl (fun ht24 => ?_) (fun ht24 => ?_) | refine CW.condN rfl (fun ht24 => ?_) (fun ht24 => ?_) | refine CW.cond rfl (fun ht24 => ?_) (fun ht24 => ?_)
        · -- then
          refine CW.region ?_
          refine WL.val (Y.move rfl) (by decide) ?_
          refine WL.val (Y.move rfl) (by decide) ?_
          refine WL.val (Y.indexAddrN Try.underlying108 rfl rfl sz0_sint16 (by omega)) (by decide) ?_
          refine WL.val (Y.load1 Try.underlying112 rfl (hR.tab (by omega)).cell0 rfl) (by decide) ?_
          refine WL.val (Y.move rfl) (by decide) ?_
          refine WL.val (Y.move rfl) (by decide) ?_
          refine WL.val (Y.len_string Try.underlying9 rfl) (by decide) ?_
          refine WL.val (Y.move rfl) (by decide) ?_
          refine WL.val (Y.sub rfl rfl ⟨by omega, by omega⟩) (by decide) ?_
          refine WL.val (Y.convR (r := (((bs b).size - j : Nat) : Int)) Try.underlying3 Try.underlying111 rfl (by rw [show ((bs b).size : Int) - (j : Int) = (((bs b).size - j : Nat) : Int) by omega]; exact wrap16 (by omega))) (by decide) ?_
          refine WL.val (Y.indexAddrN Try.underlying112 rfl rfl sz0_int16 (by omega)) (by decide) ?_
          refine WL.storeC (i := i * ((bs b).size + 1) + j) rfl (by rw [add_add]; congr 1; omega) rfl rfl rfl (by kernel_rfl) hB ((by rw [tabL_length]; exact row_lt (by omega) (by omega))) (fun w7 hc7 hB7_ => ?_)
          have hz7 := hc7.size; have hE := hE.step hc7 (fun k h => by omega)
          have hR := hR.chg hc7 (fun h => hRB h)
          have hB : Blk w7 B 111 (tabL (((bs a).size + 1) * ((bs b).size + 1)) (updL f (i * ((bs b).size + 1) + j) (.int .i16 (((bs b).size - j : Nat) : Int)))) := by rw [← tabL_set]; exact hB7_
          refine WL.nil ?_
          exact ⟨updL f (i * ((bs b).size + 1) + j) (.int .i16 (((bs b).size - j : Nat) : Int)), (by repeat (first | exact Fr.le.nil | refine Fr.le.cons rfl ?_ | refine Fr.le.cons (by show some (Value.int .i64 _) = some (Value.int .i64 _); congr 2; dsimp only; omega) ?_)), hR, hB, (by rw [hsb]; exact hD.put (by omega) (by rw [List.drop_of_length_le (by omega), cst_nil, List.length_drop] <;> omega)), hE⟩
     
        refine CW.seq fun K25 hK25 => ?_
        refine CW.region ?_
        refine WL.val (Y.move rfl) (by decide) ?_
        refine WL.val (Y.move rfl) (by decide) ?_
        refine WL.val (Y.len_string Try.underlying9 rfl) (by decide) ?_
        refine WL.val (Y.eql rfl rfl) (by decide) ?_
        refine WL.val (Y.assign rfl) (by decide) ?_
        refine WL.nil ?_
        refine hK25 _ _ ?_; try clear hK25 K25
        first | refine CW.condD rfl (fun ht26 => ?_) (fun ht26 => ?_) | refine CW.condND rfl (fun ht26 => ?_) (fun ht26 => ?_) | refine CW.condN rfl (fun ht26 => ?_) (fun ht26 => ?_) | refine CW.cond rfl (fun ht26 => ?_) (fun ht26 => ?_)
        · -- then
          refine CW.region ?_
          refine WL.val (Y.move rfl) (by decide) ?_
          refine WL.val (Y.move rfl) (by decide) ?_
          refine WL.val (Y.indexAddrN Try.underlying108 rfl rfl sz0_sint16 (by omega)) (by decide) ?_
          refine WL.val (Y.load1 Try.underlying112 rfl (hR.tab (by omega)).cell0 rfl) (by decide) ?_
          refine WL.val (Y.move rfl) (by decide) ?_
          refine WL.val (Y.move rfl) (by decide) ?_
          refine WL.val (Y.len_string Try.underlying9 rfl) (by decide) ?_
          refine WL.val (Y.move rfl) (by decide) ?_
          refine WL.val (Y.sub rfl rfl ⟨by omega, by omega⟩) (by decide) ?_
          refine WL.val (Y.convR (r := (((bs a).size - i : Nat) : Int)) Try.underlying3 Try.underlying111 rfl (by rw [show ((bs a).size : Int) - (i : Int) = (((bs a).size - i : Nat) : Int) by omega]; exact wrap16 (by omega))) (by decide) ?_
          refine WL.val (Y.indexAddrN Try.underlying112 rfl rfl sz0_int16 (by omega)) (by decide) ?_
          refine WL.storeC (i := i * ((bs b).size + 1) + j) rfl (by rw [add_add]; congr 1; omega) rfl rfl rfl (by kernel_rfl) hB ((by rw [tabL_length]; exact row_lt (by omega) (by omega))) (fun w8 hc8 hB8_ => ?_)
          have hz8 := hc8.size; have hE := hE.step hc8 (fun k h => by omega)
          have hR := hR.chg hc8 (fun h => hRB h)
          have hB : Blk w8 B 111 (tabL (((bs a).size + 1) * ((bs b).size + 1)) (updL f (i * ((bs b).size + 1) + j) (.int .i16 (((bs a).size - i : Nat) : Int)))) := by rw [← tabL_set]; exact hB8_
          refine WL.nil ?_
          exact ⟨updL f (i * ((bs b).size + 1) + j) (.int .i16 (((bs a).size - i : Nat) : Int)), (by repeat (first | exact Fr.le.nil | refine Fr.le.cons rfl ?_ | refine Fr.le.cons (by show some (Value.int .i64 _) = some (Value.int .i64 _); congr 2; dsimp only; omega) ?_)), hR, hB, (by rw [hsb]; exact hD.put (by omega) (by rw [List.drop_of_length_le (l := b) (by omega), cst_end, List.length_drop] <;> omega)), hE⟩
     
        refine CW.seq fun K27 hK27 => ?_
        refine CW.quiet (fun wq => Ext w6 wq) (by kernel_rfl) (by kernel_rfl) Chg.drew ?_
        refine QL.val (fun wq hq => Y.move rfl) (by decide) ?_
        refine QL.val (fun wq hq => Y.move rfl) (by decide) ?_
        refine QL.val (fun wq hq => Y.index_string (i := i) (s := bs a) Try.underlying9 rfl rfl (by omega)) (by decide) ?_
        refine QL.val (fun wq hq => Y.move rfl) (by decide) ?_
        refine QL.val (fun wq hq => Y.move rfl) (by decide) ?_
        refine QL.val (fun wq hq => Y.index_string (i := j) (s := bs b) Try.underlying9 rfl rfl (by omega)) (by decide) ?_
        refine QL.val (fun wq hq => Y.eql rfl rfl) (by decide) ?_
        refine QL.val (fun wq hq => Y.assign rfl) (by decide) ?_
        refine QL.nil fun w9 hx9 => ?_
        have hz9 := hx9.size
        have hE := hE.thenExt hx9
        refine hK27 _ _ ?_; try clear hK27 K27
        first | refine CW.condD rfl (fun ht28 => ?_) (fun ht28 => ?_) | refine CW.condND rfl (fun ht28 => ?_) (fun ht28 => ?_) | refine CW.condN rfl (fun ht28 => ?_) (fun ht28 => ?_) | refine CW.cond rfl (fun ht28 => ?_) (fun ht28 => ?_)
        · -- then
          have hv11 : f ((i + 1) * ((bs b).size + 1) + (j + 1)) = .int .i16 (cst (a.drop (i + 1)) (b.drop (j + 1)) : Int) := by rw [hsb]; exact hD (i + 1) (j + 1) (by omega) (by omega) (.inl (by omega))
          have heq : a[i]'(by omega) = b[j]'(by omega) := by
            have h9 : ((a[i]'(by omega)).toNat : Int) = ((b[j]'(by omega)).toNat : Int) := by assumption
            exact UInt8.toNat_inj.1 (by omega)
          refine CW.head 15 (by kernel_rfl) (by kernel_rfl) fun w10 hx10 => ?_
          skip; have hz10 := hx10.size; have hE := hE.thenExt hx10
          refine HL.val (Y.move rfl) (by decide) ?_
          refine HL.val (Y.move rfl) (by decide) ?_
          refine HL.val (Y.indexAddrN Try.underlying108 rfl rfl sz0_sint16 (by omega)) (by decide) ?_
          refine HL.val (Y.load1 Try.underlying112 rfl ((hR.ext (hx9.thenExt hx10)).tab (by omega)).cell0 rfl) (by decide) ?_
          refine HL.val (Y.move rfl) (by decide) ?_
          refine HL.val (Y.move rfl) (by decide) ?_
          refine HL.val (Y.move rfl) (by decide) ?_
          refine HL.val (Y.add rfl rfl ⟨by omega, by omega⟩) (by decide) ?_
          refine HL.val (Y.indexAddrN Try.underlying108 rfl rfl sz0_sint16 (by omega) (i := i + 1)) (by decide) ?_
          refine HL.val (Y.load1 Try.underlying112 rfl ((hR.ext (hx9.thenExt hx10)).tab (by omega)).cell0 rfl) (by decide) ?_
          refine HL.val (Y.move rfl) (by decide) ?_
          refine HL.val (Y.add rfl rfl ⟨by omega, by omega⟩) (by decide) ?_
          refine HL.val (Y.indexAddrN Try.underlying112 rfl rfl sz0_int16 (by omega) (i := j + 1)) (by decide) ?_
          refine HL.val (Y.load1 Try.underlying111 rfl (by have h9 := (hB.ext (hx9.thenExt hx10)).tab2 (i := i + 1) (j := j + 1) (by omega) (by omega); rw [hv11] at h9; exact h9.cell0) rfl) (by decide) ?_
          refine HL.val (Y.indexAddrN Try.underlying112 rfl rfl sz0_int16 (by omega)) (by decide) ?_
          refine HL.nil ?_
          refine WL.storeC (i := i * ((bs b).size + 1) + j) rfl (by rw [add_add]; congr 1; omega) rfl rfl rfl (by kernel_rfl) (hB.ext (hx9.thenExt hx10)) ((by rw [tabL_length]; exact row_lt (by omega) (by omega))) (fun w11 hc11 hB11_ => ?_)
          have hz11 := hc11.size; have hE := hE.step hc11 (fun k h => by omega)
          have hR := hR.ext (hx9.thenExt hx10)
          have hR := hR.chg hc11 (fun h => hRB h)
          have hB : Blk w11 B 111 (tabL (((bs a).size + 1) * ((bs b).size + 1)) (updL f (i * ((bs b).size + 1) + j) (.int .i16 ((cst (a.drop (i + 1)) (b.drop (j + 1)) : Nat) : Int)))) := by rw [← tabL_set]; exact hB11_
          refine WL.nil ?_
          exact ⟨updL f (i * ((bs b).size + 1) + j) (.int .i16 ((cst (a.drop (i + 1)) (b.drop (j + 1)) : Nat) : Int)), (by repeat (first | exact Fr.le.nil | refine Fr.le.cons rfl ?_ | refine Fr.le.cons (by show some (Value.int .i64 _) = some (Value.int .i64 _); congr 2; dsimp only; omega) ?_)), hR, hB, (by rw [hsb]; exact hD.put (by omega) (by rw [drop_cons (l := a) (i := i) (by omega), drop_cons (l := b) (i := j) (by omega), cst_cons, if_pos heq])), hE⟩
     
        have hv10 : f ((i + 1) * ((bs b).size + 1) + j) = .int .i16 (cst (a.drop (i + 1)) (b.drop j) : Int) := by rw [hsb]; exact hD (i + 1) j (by omega) (by omega) (.inl (by omega))
        have hv01 : f (i * ((bs b).size + 1) + (j + 1)) = .int .i16 (cst (a.drop i) (b.drop (j + 1)) : Int) := by rw [hsb]; exact hD i (j + 1) (by omega) (by omega) (.inr ⟨rfl, by omega⟩)
        have heq : ¬ a[i]'(by omega) = b[j]'(by omega) := fun h => by
          have h9 : ¬ ((a[i]'(by omega)).toNat : Int) = ((b[j]'(by omega)).toNat : Int) := by assumption
          exact h9 (by rw [h])
        refine CW.head 24 (by kernel_rfl) (by kernel_rfl) fun w12 hx12 => ?_
        skip; have hz12 := hx12.size; have hE := hE.thenExt hx12
        refine HL.val (Y.move rfl) (by decide) ?_
        refine HL.val (Y.move rfl) (by decide) ?_
        refine HL.val (Y.indexAddrN Try.underlying108 rfl rfl sz0_sint16 (by omega)) (by decide) ?_
        refine HL.val (Y.load1 Try.underlying112 rfl ((hR.ext (hx9.thenExt hx12)).tab (by omega)).cell0 rfl) (by decide) ?_
        refine HL.val (Y.move rfl) (by decide) ?_
        refine HL.val (Y.move rfl) (by decide) ?_
        refine HL.val (Y.move rfl) (by decide) ?_
        refine HL.val (Y.add rfl rfl ⟨by omega, by omega⟩) (by decide) ?_
        refine HL.val (Y.indexAddrN Try.underlying108 rfl rfl sz0_sint16 (by omega) (i := i + 1)) (by decide) ?_
        refine HL.val (Y.load1 Try.underlying112 rfl ((hR.ext (hx9.thenExt hx12)).tab (by omega)).cell0 rfl) (by decide) ?_
        refine HL.val (Y.move rfl) (by decide) ?_
        refine HL.val (Y.indexAddrN Try.underlying112 rfl rfl sz0_int16 (by omega)) (by decide) ?_
        refine HL.val (Y.load1 Try.underlying111 rfl (by have h9 := (hB.ext (hx9.thenExt hx12)).tab2 (i := i + 1) (j := j) (by omega) (by omega); rw [hv10] at h9; exact h9.cell0) rfl) (by decide) ?_
        refine HL.val (Y.move rfl) (by decide) ?_
        refine HL.val (Y.move rfl) (by decide) ?_
        refine HL.val (Y.indexAddrN Try.underlying108 rfl rfl sz0_sint16 (by omega)) (by decide) ?_
        refine HL.val (Y.load1 Try.underlying112 rfl ((hR.ext (hx9.thenExt hx12)).tab (by omega)).cell0 rfl) (by decide) ?_
        refine HL.val (Y.move rfl) (by decide) ?_
        refine HL.val (Y.add rfl rfl ⟨by omega, by omega⟩) (by decide) ?_
        refine HL.val (Y.indexAddrN Try.underlying112 rfl rfl sz0_int16 (by omega) (i := j + 1)) (by decide) ?_
        refine HL.val (Y.load1 Try.underlying111 rfl (by have h9 := (hB.ext (hx9.thenExt hx12)).tab2 (i := i) (j := j + 1) (by omega) (by omega); rw [hv01] at h9; exact h9.cell0) rfl) (by decide) ?_
        refine HL.val (Y.minN rfl rfl) (by decide) ?_
        refine HL.val (Y.add16 rfl rfl (by have h1 := cst_le (a.drop (i + 1)) (b.drop j); rw [List.length_drop, List.length_drop] at h1; omega)) (by decide) ?_
        refine HL.val (Y.indexAddrN Try.underlying112 rfl rfl sz0_int16 (by omega)) (by decide) ?_
        refine HL.nil ?_
        refine WL.storeC (i := i * ((bs b).size + 1) + j) rfl (by rw [add_add]; congr 1; omega) rfl rfl rfl (by kernel_rfl) (hB.ext (hx9.thenExt hx12)) ((by rw [tabL_length]; exact row_lt (by omega) (by omega))) (fun w13 hc13 hB13_ => ?_)
        have hz13 := hc13.size; have hE := hE.step hc13 (fun k h => by omega)
        have hR := hR.ext (hx9.thenExt hx12)
        have hR := hR.chg hc13 (fun h => hRB h)
        have hB : Blk w13 B 111 (tabL (((bs a).size + 1) * ((bs b).size + 1)) (updL f (i * ((bs b).size + 1) + j) (.int .i16 ((1 + min (cst (a.drop (i + 1)) (b.drop j)) (cst (a.drop i) (b.drop (j + 1))) : Nat) : Int)))) := by rw [← tabL_set]; exact hB13_
        refine WL.nil ?_
        exact ⟨updL f (i * ((bs b).size + 1) + j) (.int .i16 ((1 + min (cst (a.drop (i + 1)) (b.drop j)) (cst (a.drop i) (b.drop (j + 1))) : Nat) : Int)), (by repeat (first | exact Fr.le.nil | refine Fr.le.cons rfl ?_ | refine Fr.le.cons (by show some (Value.int .i64 _) = some (Value.int .i64 _); congr 2; dsimp only; omega) ?_)), hR, hB, (by rw [hsb]; exact hD.put (by omega) (by rw [drop_cons (l := a) (i := i) (by omega), drop_cons (l := b) (i := j) (by omega), cst_cons, if_neg heq, ← drop_cons (l := a) (i := i) (by omega), ← drop_cons (l := b) (i := j) (by omega)])), hE⟩
      rintro u w14 hj14
      obtain ⟨hR, hB, hD, hE⟩ := hj14
      refine CW.region ?_
      refine WL.val (Y.move rfl) (by decide) ?_
      refine WL.val (Y.sub rfl rfl ⟨by omega, by omega⟩) (by decide) ?_
      refine WL.val (Y.assign rfl) (by decide) ?_
      refine WL.nil ?_
      exact ⟨(j, u), (by show j < j + 1; omega), (by repeat (first | exact Fr.le.nil | refine Fr.le.cons rfl ?_ | refine Fr.le.cons (by show some (Value.int .i64 _) = some (Value.int .i64 _); congr 2; dsimp only; omega) ?_)), (by show j ≤ (bs b).size + 1; omega), hR, hB, hD, hE⟩
 
    refine CW.exit ?_
    refine hK17 _ _ ?_; try clear hK17 K17
    refine CW.region ?_
    refine WL.val (Y.move rfl) (by decide) ?_
    refine WL.val (Y.sub rfl rfl ⟨by omega, by omega⟩) (by decide) ?_
    refine WL.val (Y.assign rfl) (by decide) ?_
    refine WL.nil ?_
    have hy0 : y = 0 := by omega
    subst hy0
    exact ⟨(i, f), (by show i < i + 1; omega), (by repeat (first | exact Fr.le.nil | refine Fr.le.cons rfl ?_ | refine Fr.le.cons (by show some (Value.int .i64 _) = some (Value.int .i64 _); congr 2; dsimp only; omega) ?_)), (by show i ≤ (bs a).size + 1; omega), hR, hB, (fun _ => hD), hE⟩
  refine CW.exit ?_
  refine hK12 _ _ ?_; try clear hK12 K12
  refine CW.seq fun K29 hK29 => ?_
  refine CW.region ?_
  refine WL.val (Y.move rfl) (by decide) ?_
  refine WL.val (Y.assign rfl) (by decide) ?_
  refine WL.nil ?_
  refine hK29 _ _ ?_; try clear hK29 K29
  refine CW.ret ⟨_, rfl, ?_⟩
  have hx0 : x = 0 := by omega
  subst hx0
  have hC := hC (Nat.zero_le _)
  refine ⟨⟨⟨R, 0, none⟩, (bs a).size + 1, by rw [hsa], fun i hi => ⟨(⟨B, 0, none⟩ : Addr).add (i * (b.length + 1) * 1), b.length + 1, ?_, fun j hj => ?_⟩⟩, hE⟩
  · have h9 := hR.tab (i := i) (by omega)
    unfold rowV at h9
    rw [hsb] at h9
    exact h9
  · have h9 := hB.tab2 (i := i) (j := j) (by omega) (by omega)
    rw [hsb, hC i j (by omega) (by omega) (by omega)] at h9
    exact h9
end Go.Proofs.Ytmndofgagngcgaa
