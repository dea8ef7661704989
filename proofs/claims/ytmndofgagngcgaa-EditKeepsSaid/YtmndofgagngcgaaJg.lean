/- Edit scripts in memory; one step more, walked. No condition but bounds. -/
import Derived.Test.YtmndofgagngcgaaJf
import Derived.Test.YtmndofgagngcgaaQw
import Derived.Test.YtmndofgagngcgaaG2
set_option linter.unusedSimpArgs false
set_option linter.unusedVariables false
namespace Go.Fw
open Go.RowKit Go.Fu
theorem Y.subC {P : Program} {n : NN} {fr : Fr} {w : World} {ty : TypeId} {x y : Operand} {a b : Int} {c : Nat} {t t' : TypeId} (hx : ev fr x = some (.int .i64 a)) (hy : ev fr y = some (.int .i64 b)) (h : a - b = (c : Int)) (hb : -9223372036854775808 ≤ a - b ∧ a - b ≤ 9223372036854775807) : Yw P n fr (.binOp .sub t x y t') ty w (.int .i64 (c : Int)) w := by
  rw [← h]; exact Y.sub hx hy ⟨by omega, by omega⟩
def edC (x : EdD) : List Value := [.int .i64 (x.kind : Int), .int .i64 (x.n : Int), .string (bs x.text)]
theorem edC_length (x : EdD) : (edC x).length = 3 := rfl
theorem one_edC {x : EdD} : ∀ u ∈ edC x, u.oneCell' = true := by
  intro u hu
  simp only [edC, List.mem_cons, List.not_mem_nil, or_false] at hu
  rcases hu with rfl | rfl | rfl <;> rfl
abbrev edL (l : List EdD) : List Value := (l.map edC).flatten
theorem edL_length (l : List EdD) : (edL l).length = l.length * 3 := flat_length edC_length l
section
variable {w : World} {a : Addr} {x : EdD} (h : Mem w a (edC x))
include h
theorem Mem.apiEdit0 : w.cell? (a.add 0) = some (.int .i64 (x.kind : Int)) := h.cell 0 rfl
theorem Mem.apiEdit1 : w.cell? (a.add 1) = some (.int .i64 (x.n : Int)) := h.cell 1 rfl
theorem Mem.apiEdit2 : w.cell? (a.add 2) = some (.string (bs x.text)) := h.cell 2 rfl
end
theorem edL_text {l : List EdD} {i : Nat} {x : EdD} (h : l[i]? = some x) (t : List UInt8) : edL l = (edL (l.take i) ++ [.int .i64 (x.kind : Int), .int .i64 (x.n : Int)]) ++ [.string (bs x.text)] ++ edL (l.drop (i + 1)) ∧ edL (l.set i ⟨x.kind, x.n, t⟩) = (edL (l.take i) ++ [.int .i64 (x.kind : Int), .int .i64 (x.n : Int)]) ++ [.string (bs t)] ++ edL (l.drop (i + 1)) := by
  obtain ⟨h1, h2⟩ := flat_split (enc := edC) (⟨x.kind, x.n, t⟩ : EdD) h
  exact ⟨by rw [edL, h1]; simp only [edC, List.append_assoc, List.cons_append, List.nil_append], by rw [edL, h2]; simp only [edC, List.append_assoc, List.cons_append, List.nil_append]⟩
theorem edL_n {l : List EdD} {i : Nat} {x : EdD} (h : l[i]? = some x) (n : Nat) : edL l = (edL (l.take i) ++ [.int .i64 (x.kind : Int)]) ++ [.int .i64 (x.n : Int)] ++ ([.string (bs x.text)] ++ edL (l.drop (i + 1))) ∧ edL (l.set i ⟨x.kind, n, x.text⟩) = (edL (l.take i) ++ [.int .i64 (x.kind : Int)]) ++ [.int .i64 (n : Int)] ++ ([.string (bs x.text)] ++ edL (l.drop (i + 1))) := by
  obtain ⟨h1, h2⟩ := flat_split (enc := edC) (⟨x.kind, n, x.text⟩ : EdD) h
  exact ⟨by rw [edL, h1]; simp only [edC, List.append_assoc, List.cons_append, List.nil_append], by rw [edL, h2]; simp only [edC, List.append_assoc, List.cons_append, List.nil_append]⟩
def lastK (l : List EdD) : Nat := ((l[l.length - 1]?).map EdD.kind).getD 0
theorem openE_new {l : List EdD} {k : Nat} (h : (l.length : Int) = 0 ∨ ¬ (lastK l : Int) = (k : Int)) : openE l k = l ++ [⟨k, 0, []⟩] := by
  rw [openE, if_neg]
  intro h1
  rw [List.getLast?_eq_getElem?] at h1
  rcases h with h | h
  · rw [List.getElem?_eq_none_iff.2 (by omega)] at h1; cases h1
  · rw [lastK, h1] at h; exact h rfl
theorem openE_old {l : List EdD} {k : Nat} (h : ¬ ((l.length : Int) = 0 ∨ ¬ (lastK l : Int) = (k : Int))) : openE l k = l := by
  rw [openE, if_pos]
  rw [List.getLast?_eq_getElem?]
  have h0 : ¬ (l.length : Int) = 0 := fun e => h (.inl e)
  have h1 : (lastK l : Int) = (k : Int) := Decidable.not_not.1 fun e => h (.inr e)
  obtain ⟨x, hx⟩ : ∃ x, l[l.length - 1]? = some x := ⟨_, List.getElem?_eq_getElem (by omega)⟩
  rw [hx]
  rw [lastK, hx] at h1
  simp only [Option.map_some, Option.getD_some] at h1 ⊢
  congr 1
  omega
theorem addE_set {l : List EdD} {s : Stp} {x : EdD} (h : (openE l s.kind)[(openE l s.kind).length - 1]? = some x) : addE l s = (openE l s.kind).set ((openE l s.kind).length - 1) (x.more s) := by
  unfold addE
  generalize openE l s.kind = m at h ⊢
  apply List.ext_getElem?
  intro i
  rw [List.getElem?_modify, List.getElem?_set]
  have hlt := (List.getElem?_eq_some_iff.1 h).1
  by_cases e : m.length - 1 = i
  · subst e
    rw [if_pos rfl, if_pos hlt, h]; simp
  · rw [if_neg e]
    cases m[i]? with
    | none => rfl
    | some y => show some (if m.length - 1 = i then _ else y) = _; rw [if_neg e]
/-- The bytes of a step. -/
def _root_.Go.Fu.Stp.str : Stp → List UInt8
  | .put y => [y]
  | _ => []
def BdE (l : List EdD) (N : Nat) : Prop := ∀ x ∈ l, x.n + x.text.length ≤ N
theorem BdE.open_ {l : List EdD} {N k : Nat} (h : BdE l N) : BdE (openE l k) N := fun x hx => by
  unfold openE at hx
  split at hx
  · exact h x hx
  · rcases List.mem_append.1 hx with hx | hx
    · exact h x hx
    · simp at hx; subst hx; simp
theorem BdE.add {l : List EdD} {N : Nat} (h : BdE l N) (s : Stp) : BdE (addE l s) (N + 1) := fun x hx => by
  obtain ⟨i, hi⟩ := List.mem_iff_getElem?.1 hx
  unfold addE at hi
  rw [List.getElem?_modify] at hi
  obtain ⟨y, hy, rfl⟩ := Option.map_eq_some_iff.1 hi
  have := h.open_ y (List.mem_of_getElem? hy)
  split
  · cases s <;> simp [EdD.more] <;> omega
  · omega
end Go.Fw
namespace Go.Proofs.Ytmndofgagngcgaa
open Go.RowKit Go.Fw Go.Fu Go.Pl
abbrev TE : TypeId := 59
abbrev TSE : TypeId := 55
abbrev UE := Try.underlying55
theorem sz0_apiEdit : (Try.prog.info? TE).map (·.size) = some 3 := by kernel_rfl
theorem sz_apiEdit (x : EdD) : (Try.prog.info? TE).map (·.size) = some (edC x).length := sz0_apiEdit
theorem fo_apiEdit0 : FieldOff Try.prog TE 0 0 := ⟨_, _, 1, Try.underlying59, rfl, by kernel_rfl, by decide, rfl⟩
theorem fo_apiEdit1 : FieldOff Try.prog TE 1 1 := ⟨_, _, 1, Try.underlying59, rfl, by kernel_rfl, by decide, rfl⟩
theorem fo_apiEdit2 : FieldOff Try.prog TE 2 2 := ⟨_, _, 1, Try.underlying59, rfl, by kernel_rfl, by decide, rfl⟩
theorem ai_edit : AppInfo Try.prog TE 3 32 := by
  have h : (Try.prog.info? TE).map (fun i => (i.size, i.bytes, i.zero)) = some (3, 32, some (.agg (edC ⟨0, 0, []⟩).toArray)) := by kernel_rfl
  obtain ⟨i, hi, h⟩ := Option.map_eq_some_iff.1 h
  injection h with h1 h2
  injection h2 with h2 h3
  exact ⟨i, _, hi, h3, h1, rfl, h2, by decide, by decide⟩
theorem build_edit (k : Nat) (w : World) : (Instr.build TE [(0, Value.int .i64 (k : Int))].toArray).run Try.prog w = .ok (.agg (edC ⟨k, 0, []⟩).toArray) w := run_build w _ _ _ (by
  have hb : ∀ parts, Try.prog.built TE parts = Instr.fill (fun i => #[(0, 1), (1, 1), (2, 1)][i]?) (edC ⟨0, 0, []⟩).toArray parts := fun parts => by kernel_rfl
  show Try.prog.built _ [(0, Value.int .i64 (k : Int))] = _
  rw [hb]
  have e0 : edC ⟨0, 0, []⟩ = [] ++ [Value.int .i64 ((0 : Nat) : Int)] ++ [Value.int .i64 ((0 : Nat) : Int), Value.string (bs [])] := rfl
  rw [e0, fill_step [] [Value.int .i64 ((0 : Nat) : Int)] [Value.int .i64 ((0 : Nat) : Int), Value.string (bs [])] [.int .i64 (k : Int)] rfl rfl rfl rfl, Instr.fill]
  rfl)
theorem bs1_edit (x : EdD) (w : World) : (Instr.buildSlice TSE 1 [(0, .agg (edC x).toArray)].toArray).run Try.prog w = .ok (.slice (some ⟨w.heap.size, 0, none⟩) 1 1) (w.alloc (.cells (edC x).toArray TE)) := by
  obtain ⟨i, z, hi, hz, hk, _⟩ := ai_edit
  exact run_bs1 UE hi hz (by omega) (by omega) rfl (by rw [edC_length, hk]) w
theorem ed_cell {w : World} {l : List EdD} {A : Option Addr} {m c : Nat} (h : Own w TE 3 (.slice A m c) (edL l)) : l.length = m ∧ (0 < m → ∃ a x, A = some a ∧ l[m - 1]? = some x ∧ x.kind = lastK l ∧ Mem w (a.add ((m - 1) * 3)) (edC x)) := by
  have h1 : l.length = m := by
    have h2 := (h.mem A m c rfl).2.2.1
    rw [edL_length] at h2; omega
  refine ⟨h1, fun h0 => ?_⟩
  obtain ⟨x, hx⟩ : ∃ x, l[m - 1]? = some x := ⟨_, List.getElem?_eq_getElem (by omega)⟩
  obtain ⟨a, ha, hm⟩ := (h.sl edC_length (by decide)).get hx
  exact ⟨a, x, ha, hx, by rw [lastK, h1, hx]; rfl, hm⟩

set_option maxRecDepth 100000 in
set_option maxHeartbeats 1000000 in
theorem fadd1_any (gl : Nat) (u0 : Value) (l : List EdD) (N : Nat) (s : Stp) (w : World) (hB : Blk w gl TSE [u0]) (hO : Own w TE 3 u0 (edL l)) (hlen : l.length ≤ 4000) (hbd : BdE l N) (hN : N ≤ 4000) : Calls Try.prog 45 #[.int .i64 (s.kind : Int), .string (bs s.str), .pointer (some ⟨gl, 0, none⟩)] w (Ret fun _ w' => ∃ u', Blk w' gl TSE [u'] ∧ Own w' TE 3 u' (edL (addE l s)) ∧ (∀ q, u'.ownBlock = some q → u0.ownBlock = some q ∨ w.heap.size ≤ q) ∧ Chg (fun q => q = gl ∨ u0.ownBlock = some q) w w') := by
  have hB2 := hB
  obtain ⟨A, m, c, rfl⟩ := hO.lens
  obtain ⟨u0, hu0⟩ : ∃ u0, u0 = Value.slice A m c := ⟨_, rfl⟩
  rw [← hu0]
  have hgl := hB.lt
  have hsk : s.kind ≤ 3 := by cases s <;> simp [Stp.kind]
  have hss : s.str.length ≤ 1 := by cases s <;> simp [Stp.str]
  obtain ⟨hm, hcell⟩ := ed_cell hO
  have hlK : (l.length : Int) = (m : Int) := by omega
  have hgu : ∀ q, (Value.slice A m c).ownBlock = some q → q ≠ gl := fun q hq e => by
    obtain ⟨_, _, h1⟩ := hO.kind hq
    subst e; exact absurd (blk_kind h1 hB) (by decide)
  refine calls_of_CW 47 [] [(0, .int .i64 (s.kind : Int)), (1, .string (bs s.str)), (2, .pointer (some ⟨gl, 0, none⟩))] Try.func45 rfl rfl rfl (by simp) args3 ?_
  have hE : Ext w w := Chg.refl
  refine CW.seq_to (X := Value) (fun _ => [(0, .int .i64 (s.kind : Int)), (1, .string (bs s.str)), (2, .pointer (some ⟨gl, 0, none⟩))]) (fun u1 w0 => Blk w0 gl TSE [u1] ∧ Own w0 TE 3 u1 (edL (openE l s.kind)) ∧ (∀ q, u1.ownBlock = some q → u0.ownBlock = some q ∨ w.heap.size ≤ q) ∧ Chg (fun q => q = gl ∨ u0.ownBlock = some q) w w0) ?_ ?_
  · skip
    refine CW.seq_test 18 ((m : Int) = 0 ∨ ¬ (lastK l : Int) = (s.kind : Int)) ?_ ?_
    · refine CW.region ?_
      refine WL.val (Y.load1 Try.underlying55 rfl hB2.mem.cell0 rfl) (by decide) ?_
      refine WL.val (Y.len_slice Try.underlying55 rfl) (by decide) ?_
      refine WL.val (Y.eql rfl rfl) (by decide) ?_
      refine WL.val (Y.move rfl) (by decide) ?_
      first | refine WL.casesD (d := 8) rfl (fun hg8 => ?_) (fun hg8 => ?_) | refine WL.casesND (d := 8) rfl (fun hg8 => ?_) (fun hg8 => ?_) | refine WL.cases (d := 8) rfl (fun hg8 => ?_) (fun hg8 => ?_)
      · -- t8 = T
        refine WL.goff rfl rfl (by decide) ?_
        refine WL.goff rfl rfl (by decide) ?_
        refine WL.goff rfl rfl (by decide) ?_
        refine WL.goff rfl rfl (by decide) ?_
        refine WL.goff rfl rfl (by decide) ?_
        refine WL.goff rfl rfl (by decide) ?_
        refine WL.goff rfl rfl (by decide) ?_
        refine WL.goff rfl rfl (by decide) ?_
        refine WL.goff rfl rfl (by decide) ?_
        refine WL.val (Y.pick rfl rfl) (by decide) ?_
        refine WL.nil ⟨⟨_, rfl, ?_⟩, rfl, (by repeat (first | exact Fr.le.refl | refine Fr.le.push rfl ?_))⟩
        first | (simp only [*, Int.natCast_inj, Bool.not_eq_true', decide_eq_false_iff_not, decide_eq_true_eq, not_true_eq_false, not_false_eq_true, true_and, false_and, and_true, and_false, false_or, or_false, true_or, or_true, iff_true, true_iff, iff_false, false_iff]; done) | (simp_all; done) | (refine congrArg Value.bool (Bool.eq_iff_iff.2 ?_); simp_all; done) | (simp_all; omega)
      · -- t8 = F
        obtain ⟨a, x, rfl, hx, hxk, hma⟩ := hcell (by omega)
        rw [← hxk]
        refine WL.gval rfl rfl (Y.load1 Try.underlying55 rfl hB2.mem.cell0 rfl) (by decide) ?_
        refine WL.gval rfl rfl (Y.load1 Try.underlying55 rfl hB2.mem.cell0 rfl) (by decide) ?_
        refine WL.gval rfl rfl (Y.len_slice Try.underlying55 rfl) (by decide) ?_
        refine WL.gval rfl rfl (Y.subC (c := m - 1) rfl rfl (by omega) (by omega)) (by decide) ?_
        refine WL.gval rfl rfl (Y.indexAddrN Try.underlying55 rfl rfl sz0_apiEdit (by omega)) (by decide) ?_
        refine WL.gval rfl rfl (Y.fieldAddr fo_apiEdit0 rfl) (by decide) ?_
        refine WL.gval rfl rfl (Y.load1 Try.underlying3 rfl hma.apiEdit0 rfl) (by decide) ?_
        refine WL.gval rfl rfl (Y.move rfl) (by decide) ?_
        refine WL.gval rfl rfl (Y.neq rfl rfl) (by decide) ?_
        refine WL.val (Y.pick rfl rfl) (by decide) ?_
        refine WL.nil ⟨⟨_, rfl, ?_⟩, rfl, (by repeat (first | exact Fr.le.refl | refine Fr.le.push rfl ?_))⟩
        first | (simp only [*, Int.natCast_inj, Bool.not_eq_true', decide_eq_false_iff_not, decide_eq_true_eq, not_true_eq_false, not_false_eq_true, true_and, false_and, and_true, and_false, false_or, or_false, true_or, or_true, iff_true, true_iff, iff_false, false_iff]; done) | (simp_all; done) | (refine congrArg Value.bool (Bool.eq_iff_iff.2 ?_); simp_all; done) | (simp_all; omega)
    first | refine CW.condD rfl (fun ht2 => ?_) (fun ht2 => ?_) | refine CW.condND rfl (fun ht2 => ?_) (fun ht2 => ?_) | refine CW.condN rfl (fun ht2 => ?_) (fun ht2 => ?_) | refine CW.cond rfl (fun ht2 => ?_) (fun ht2 => ?_)
    · -- then
      refine CW.region ?_
      refine WL.val (Y.load1 Try.underlying55 rfl hB2.mem.cell0 rfl) (by decide) ?_
      refine WL.val (Y.move rfl) (by decide) ?_
      refine WL.val (Y.build rfl (build_edit _ _)) (by decide) ?_
      refine WL.st (St.buildSlice rfl (bs1_edit _)) (by decide) fun v22 w1 hR1 => ?_
      obtain ⟨g22, rfl, hg22, hB22, hx1⟩ := hR1
      have hz1 := hx1.size
      refine WL.st (St.append (m := 1) (news := edC ⟨s.kind, 0, []⟩) UE UE ai_edit rfl rfl (hO.ext hx1) (Fw.Src.one hB22 rfl) one_edC (by rw [edL_length]; omega)) (by decide) fun v23 w2 hR2 => ?_
      obtain ⟨hO2, hc2, hf2⟩ := hR2
      have hz2 := hc2.size
      obtain ⟨A7, m7, c7, rfl⟩ := hO2.lens
      have hB2 := (hB2.ext hx1).chg hc2 (fun h => hgu _ h rfl)
      have hO2 : Own w2 TE 3 (.slice A7 m7 c7) (edL (openE l s.kind)) := by rw [openE_new (by rw [hlK]; assumption)]; simpa [edL] using hO2
      refine WL.store (g := gl) (pre := []) (old := [.slice A m c]) (post := []) (new := [.slice A7 m7 c7]) rfl rfl rfl rfl (by kernel_rfl) (by simpa using hB2) (by first | rfl | (simp [digC_length, opC_length]; done) | (simp only [digC_length, opC_length]; omega)) (one1 rfl) (fun w3 hc3 hB3_ => ?_)
      have hz3 := hc3.size
      have hB2 : Blk w3 gl TSE [.slice A7 m7 c7] := by simpa using hB3_
      have hf7 : ∀ q, (Value.slice A7 m7 c7).ownBlock = some q → (Value.slice A m c).ownBlock = some q ∨ w.heap.size ≤ q := fun q hq => by
        rcases hf2 with h | h
        · rw [h] at hq; exact .inl hq
        · exact .inr (by have := h q hq; omega)
      have hO3 := hO2.chg hc3 (fun q hq e => by rcases hf7 q hq with h | h; exact hgu q h e; omega)
      have hC3 : Chg (fun q => q = gl ∨ u0.ownBlock = some q) w w3 := ((Ext.chg (S := (fun q => q = gl ∨ u0.ownBlock = some q)) hx1).trans hc2 (fun q _ h => .inr (by rw [hu0]; exact h))).trans hc3 (fun q _ h => .inl h)
      refine WL.nil ?_
      exact ⟨_, (by repeat (first | exact Fr.le.nil | refine Fr.le.cons rfl ?_)), hB2, hO3, (by rw [hu0]; exact hf7), hC3⟩
 
    refine CW.skip ?_
    exact ⟨_, (by repeat (first | exact Fr.le.nil | refine Fr.le.cons rfl ?_)), hB2, (by rw [openE_old (by rw [hlK]; assumption)]; exact hO), (fun q hq => .inl (by rw [hu0]; exact hq)), Chg.refl⟩
  rintro u w4 hj4
  obtain ⟨hB2, hO, hf, hC⟩ := hj4
  obtain ⟨A1, m1, c1, rfl⟩ := hO.lens
  obtain ⟨hm1, hcell1⟩ := ed_cell hO
  have hbd1 := hbd.open_ (k := s.kind)
  obtain ⟨x1, hx1, hxk⟩ := openE_last l s.kind
  have hl1 := openE_length l s.kind
  have hpos : 0 < m1 := by have := (List.getElem?_eq_some_iff.1 hx1).1; omega
  obtain ⟨a1, x2, rfl, hx2, _, hma1⟩ := hcell1 hpos
  rw [← hm1, hx1] at hx2
  obtain rfl := Option.some.inj hx2
  have hxb := hbd1 x1 (List.mem_of_getElem? hx1)
  obtain ⟨g1, hg1, _⟩ := hO.head (by
    intro h
    have h2 := edL_length (openE l s.kind)
    rw [h] at h2
    simp at h2; omega)
  injection hg1 with hg1
  subst hg1
  have hset := addE_set hx1
  rw [hm1] at hx1 hset
  refine CW.seq fun K3 hK3 => ?_
  refine CW.region ?_
  refine WL.val (Y.move rfl) (by decide) ?_
  refine WL.val (Y.eql rfl rfl) (by decide) ?_
  refine WL.nil ?_
  refine hK3 _ _ ?_; try clear hK3 K3
  first | refine CW.condD rfl (fun ht4 => ?_) (fun ht4 => ?_) | refine CW.condND rfl (fun ht4 => ?_) (fun ht4 => ?_) | refine CW.condN rfl (fun ht4 => ?_) (fun ht4 => ?_) | refine CW.cond rfl (fun ht4 => ?_) (fun ht4 => ?_)
  · -- then
    refine CW.region ?_
    refine WL.val (Y.load1 Try.underlying55 rfl hB2.mem.cell0 rfl) (by decide) ?_
    refine WL.val (Y.load1 Try.underlying55 rfl hB2.mem.cell0 rfl) (by decide) ?_
    refine WL.val (Y.len_slice Try.underlying55 rfl) (by decide) ?_
    refine WL.val (Y.subC (c := m1 - 1) rfl rfl (by omega) (by omega)) (by decide) ?_
    refine WL.val (Y.indexAddrN Try.underlying55 rfl rfl sz0_apiEdit (by omega)) (by decide) ?_
    refine WL.val (Y.fieldAddr fo_apiEdit2 rfl) (by decide) ?_
    refine WL.val (Y.load1 Try.underlying9 rfl hma1.apiEdit2 rfl) (by decide) ?_
    refine WL.val (Y.move rfl) (by decide) ?_
    refine WL.val (Y.addS rfl rfl ((by rw [bs_size, bs_size]; omega))) (by decide) ?_
    refine WL.val (Y.indexAddrN Try.underlying55 rfl rfl sz0_apiEdit (by omega)) (by decide) ?_
    refine WL.val (Y.fieldAddr fo_apiEdit2 rfl) (by decide) ?_
    refine WL.storeO (g := g1) (pre := edL ((openE l s.kind).take (m1 - 1)) ++ [.int .i64 (x1.kind : Int), .int .i64 (x1.n : Int)]) (old := [.string (bs x1.text)]) (post := edL ((openE l s.kind).drop (m1 - 1 + 1))) (new := [.string (bs x1.text ++ bs s.str)]) rfl (by rw [add_add, add_zero', List.length_append, edL_length, List.length_take, Nat.min_eq_left (by omega)]; rfl) rfl rfl (by kernel_rfl) (by rw [← (edL_text hx1 []).1]; exact hO) (by first | rfl | (simp [digC_length, opC_length]; done) | (simp only [digC_length, opC_length]; omega)) (one1 rfl) (fun w5 hc5 hB5_ => ?_)
    have hz5 := hc5.size
    obtain ⟨y, rfl⟩ : ∃ y, s = .put y := by
      have ht : (s.kind : Int) = 3 := by assumption
      cases s with
      | put y => exact ⟨y, rfl⟩
      | _ => simp [Stp.kind] at ht
    rw [show bs x1.text ++ bs (Stp.put y).str = bs (x1.text ++ [y]) from bs_append _ _, ← (edL_text hx1 (x1.text ++ [y])).2] at hB5_
    have hO2 : Own w5 TE 3 (.slice (some ⟨g1, 0, none⟩) m1 c1) (edL (addE l (.put y))) := by rw [hset]; exact hB5_
    have hB2 := hB2.chg hc5 (fun e => by rcases hf g1 rfl with h | h; rw [hu0] at h; exact hgu _ h e.symm; omega)
    refine WL.nil ?_
    refine ⟨_, rfl, ?_⟩
    exact ⟨_, hB2, hO2, hf, hC.trans hc5 (fun q _ h => by have h : q = g1 := h; rw [h]; rcases hf g1 rfl with h | h; exact .inr h; omega)⟩
  refine CW.region ?_
  refine WL.val (Y.load1 Try.underlying55 rfl hB2.mem.cell0 rfl) (by decide) ?_
  refine WL.val (Y.load1 Try.underlying55 rfl hB2.mem.cell0 rfl) (by decide) ?_
  refine WL.val (Y.len_slice Try.underlying55 rfl) (by decide) ?_
  refine WL.val (Y.subC (c := m1 - 1) rfl rfl (by omega) (by omega)) (by decide) ?_
  refine WL.val (Y.indexAddrN Try.underlying55 rfl rfl sz0_apiEdit (by omega)) (by decide) ?_
  refine WL.val (Y.fieldAddr fo_apiEdit1 rfl) (by decide) ?_
  refine WL.val (Y.load1 Try.underlying3 rfl hma1.apiEdit1 rfl) (by decide) ?_
  refine WL.val (Y.add rfl rfl ⟨by omega, by omega⟩) (by decide) ?_
  refine WL.val (Y.indexAddrN Try.underlying55 rfl rfl sz0_apiEdit (by omega)) (by decide) ?_
  refine WL.val (Y.fieldAddr fo_apiEdit1 rfl) (by decide) ?_
  refine WL.storeO (g := g1) (pre := edL ((openE l s.kind).take (m1 - 1)) ++ [.int .i64 (x1.kind : Int)]) (old := [.int .i64 (x1.n : Int)]) (post := [.string (bs x1.text)] ++ edL ((openE l s.kind).drop (m1 - 1 + 1))) (new := [.int .i64 ((x1.n : Int) + 1)]) rfl (by rw [add_add, add_zero', List.length_append, edL_length, List.length_take, Nat.min_eq_left (by omega)]; rfl) rfl rfl (by kernel_rfl) (by rw [← (edL_n hx1 0).1]; exact hO) (by first | rfl | (simp [digC_length, opC_length]; done) | (simp only [digC_length, opC_length]; omega)) (one1 rfl) (fun w6 hc6 hB6_ => ?_)
  have hz6 := hc6.size
  have hO2 : Own w6 TE 3 (.slice (some ⟨g1, 0, none⟩) m1 c1) (edL (addE l s)) := by
    have e : ((x1.n : Int) + 1) = ((x1.n + 1 : Nat) : Int) := by omega
    rw [e, ← (edL_n hx1 (x1.n + 1)).2] at hB6_
    have hmo : x1.more s = ⟨x1.kind, x1.n + 1, x1.text⟩ := by
      have ht : ¬ (s.kind : Int) = 3 := by assumption
      cases s with
      | put y => simp [Stp.kind] at ht
      | _ => rfl
    rw [hset, hmo]; exact hB6_
  have hB2 := hB2.chg hc6 (fun e => by rcases hf g1 rfl with h | h; rw [hu0] at h; exact hgu _ h e.symm; omega)
  refine WL.nil ?_
  refine ⟨_, rfl, ?_⟩
  exact ⟨_, hB2, hO2, hf, hC.trans hc6 (fun q _ h => by have h : q = g1 := h; rw [h]; rcases hf g1 rfl with h | h; exact .inr h; omega)⟩
set_option maxRecDepth 100000 in
set_option maxHeartbeats 1000000 in
theorem more_any (u0 : Value) (l : List EdD) (N : Nat) (s : Stp) (w : World) (hO : Own w TE 3 u0 (edL l)) (hlen : l.length ≤ 4000) (hbd : BdE l N) (hN : N ≤ 4000) : Calls Try.prog 53 #[u0, .int .i64 (s.kind : Int), .string (bs s.str)] w (Ret fun v w' => Own w' TE 3 v (edL (addE l s)) ∧ (∀ q, v.ownBlock = some q → u0.ownBlock = some q ∨ w.heap.size ≤ q) ∧ Chg (fun q => u0.ownBlock = some q) w w') := by
  obtain ⟨A, m, c, rfl⟩ := hO.lens
  obtain ⟨u0, hu0⟩ : ∃ u0, u0 = Value.slice A m c := ⟨_, rfl⟩
  rw [← hu0]
  have hsk : s.kind ≤ 3 := by cases s <;> simp [Stp.kind]
  have hss : s.str.length ≤ 1 := by cases s <;> simp [Stp.str]
  obtain ⟨hm, hcell⟩ := ed_cell hO
  have hlK : (l.length : Int) = (m : Int) := by omega
  rw [hu0]
  refine calls_of_CW 57 [6] [(0, .slice A m c), (1, .int .i64 (s.kind : Int)), (2, .string (bs s.str))] Try.func53 rfl rfl rfl (by simp) args3 ?_
  have hE : Ext w w := Chg.refl
  refine CW.seq fun K1 hK1 => ?_
  refine CW.region ?_
  refine WL.val (Y.assign rfl) (by decide) ?_
  refine WL.nil ?_
  refine hK1 _ _ ?_; try clear hK1 K1
  refine CW.seq fun K2 hK2 => ?_
  refine CW.region ?_
  refine WL.val (Y.move rfl) (by decide) ?_
  refine WL.val (Y.len_slice Try.underlying55 rfl) (by decide) ?_
  refine WL.val (Y.assign rfl) (by decide) ?_
  refine WL.nil ?_
  refine hK2 _ _ ?_; try clear hK2 K2
  refine CW.seq_to (X := Value) (fun u1 => [(0, u1), (1, .int .i64 (s.kind : Int)), (2, .string (bs s.str)), (7, .int .i64 ((openE l s.kind).length : Int))]) (fun u1 w0 => Own w0 TE 3 u1 (edL (openE l s.kind)) ∧ (∀ q, u1.ownBlock = some q → u0.ownBlock = some q ∨ w.heap.size ≤ q) ∧ Chg (fun q => u0.ownBlock = some q) w w0) ?_ ?_
  · skip
    refine CW.seq_test 21 ((m : Int) = 0 ∨ ¬ (lastK l : Int) = (s.kind : Int)) ?_ ?_
    · refine CW.region ?_
      refine WL.val (Y.move rfl) (by decide) ?_
      refine WL.val (Y.eql rfl rfl) (by decide) ?_
      refine WL.val (Y.move rfl) (by decide) ?_
      first | refine WL.casesD (d := 12) rfl (fun hg12 => ?_) (fun hg12 => ?_) | refine WL.casesND (d := 12) rfl (fun hg12 => ?_) (fun hg12 => ?_) | refine WL.cases (d := 12) rfl (fun hg12 => ?_) (fun hg12 => ?_)
      · -- t12 = T
        refine WL.goff rfl rfl (by decide) ?_
        refine WL.goff rfl rfl (by decide) ?_
        refine WL.goff rfl rfl (by decide) ?_
        refine WL.goff rfl rfl (by decide) ?_
        refine WL.goff rfl rfl (by decide) ?_
        refine WL.goff rfl rfl (by decide) ?_
        refine WL.goff rfl rfl (by decide) ?_
        refine WL.goff rfl rfl (by decide) ?_
        refine WL.val (Y.pick rfl rfl) (by decide) ?_
        refine WL.nil ⟨⟨_, rfl, ?_⟩, rfl, (by repeat (first | exact Fr.le.refl | refine Fr.le.push rfl ?_))⟩
        first | (simp only [*, Int.natCast_inj, Bool.not_eq_true', decide_eq_false_iff_not, decide_eq_true_eq, not_true_eq_false, not_false_eq_true, true_and, false_and, and_true, and_false, false_or, or_false, true_or, or_true, iff_true, true_iff, iff_false, false_iff]; done) | (simp_all; done) | (refine congrArg Value.bool (Bool.eq_iff_iff.2 ?_); simp_all; done) | (simp_all; omega)
      · -- t12 = F
        obtain ⟨a, x, rfl, hx, hxk, hma⟩ := hcell (by omega)
        rw [← hxk]
        refine WL.gval rfl rfl (Y.move rfl) (by decide) ?_
        refine WL.gval rfl rfl (Y.move rfl) (by decide) ?_
        refine WL.gval rfl rfl (Y.subC (c := m - 1) rfl rfl (by omega) (by omega)) (by decide) ?_
        refine WL.gval rfl rfl (Y.indexAddrN Try.underlying55 rfl rfl sz0_apiEdit (by omega)) (by decide) ?_
        refine WL.gval rfl rfl (Y.fieldAddr fo_apiEdit0 rfl) (by decide) ?_
        refine WL.gval rfl rfl (Y.load1 Try.underlying3 rfl hma.apiEdit0 rfl) (by decide) ?_
        refine WL.gval rfl rfl (Y.move rfl) (by decide) ?_
        refine WL.gval rfl rfl (Y.neq rfl rfl) (by decide) ?_
        refine WL.val (Y.pick rfl rfl) (by decide) ?_
        refine WL.nil ⟨⟨_, rfl, ?_⟩, rfl, (by repeat (first | exact Fr.le.refl | refine Fr.le.push rfl ?_))⟩
        first | (simp only [*, Int.natCast_inj, Bool.not_eq_true', decide_eq_false_iff_not, decide_eq_true_eq, not_true_eq_false, not_false_eq_true, true_and, false_and, and_true, and_false, false_or, or_false, true_or, or_true, iff_true, true_iff, iff_false, false_iff]; done) | (simp_all; done) | (refine congrArg Value.bool (Bool.eq_iff_iff.2 ?_); simp_all; done) | (simp_all; omega)
    first | refine CW.condD rfl (fun ht4 => ?_) (fun ht4 => ?_) | refine CW.condND rfl (fun ht4 => ?_) (fun ht4 => ?_) | refine CW.condN rfl (fun ht4 => ?_) (fun ht4 => ?_) | refine CW.cond rfl (fun ht4 => ?_) (fun ht4 => ?_)
    · -- then
      refine CW.seq fun K5 hK5 => ?_
      refine CW.region ?_
      refine WL.val (Y.move rfl) (by decide) ?_
      refine WL.val (Y.move rfl) (by decide) ?_
      refine WL.val (Y.build rfl (build_edit _ _)) (by decide) ?_
      refine WL.st (St.buildSlice rfl (bs1_edit _)) (by decide) fun v25 w1 hR1 => ?_
      obtain ⟨g22, rfl, hg22, hB22, hx1⟩ := hR1
      have hz1 := hx1.size
      refine WL.st (St.append (m := 1) (news := edC ⟨s.kind, 0, []⟩) UE UE ai_edit rfl rfl (hO.ext hx1) (Fw.Src.one hB22 rfl) one_edC (by rw [edL_length]; omega)) (by decide) fun v26 w2 hR2 => ?_
      obtain ⟨hO2, hc2, hf2⟩ := hR2
      have hz2 := hc2.size
      obtain ⟨A7, m7, c7, rfl⟩ := hO2.lens
      have hon := openE_new (l := l) (k := s.kind) (by rw [hlK]; assumption)
      have hol : (openE l s.kind).length = m + 1 := by rw [hon, List.length_append, hm]; rfl
      have hO2 : Own w2 TE 3 (.slice A7 m7 c7) (edL (openE l s.kind)) := by rw [hon]; simpa [edL] using hO2
      have hf7 : ∀ q, (Value.slice A7 m7 c7).ownBlock = some q → (Value.slice A m c).ownBlock = some q ∨ w.heap.size ≤ q := fun q hq => by
        rcases hf2 with h | h
        · rw [h] at hq; exact .inl hq
        · exact .inr (by have := h q hq; omega)
      have hC3 : Chg (fun q => u0.ownBlock = some q) w w2 := (Ext.chg (S := (fun q => u0.ownBlock = some q)) hx1).trans hc2 (fun q _ h => by rw [hu0]; exact h)
      refine WL.val (Y.assign rfl) (by decide) ?_
      refine WL.nil ?_
      refine hK5 _ _ ?_; try clear hK5 K5
      refine CW.region ?_
      refine WL.val (Y.move rfl) (by decide) ?_
      refine WL.val (Y.add rfl rfl ⟨by omega, by omega⟩) (by decide) ?_
      refine WL.val (Y.assign rfl) (by decide) ?_
      refine WL.nil ?_
      exact ⟨_, (by repeat (first | exact Fr.le.nil | refine Fr.le.cons rfl ?_ | refine Fr.le.cons (by show some (Value.int .i64 _) = some (Value.int .i64 _); congr 2; omega) ?_)), hO2, (by rw [hu0]; exact hf7), hC3⟩
 
    refine CW.skip ?_
    have hon := openE_old (l := l) (k := s.kind) (by rw [hlK]; assumption)
    have hol : (openE l s.kind).length = m := by rw [hon, hm]
    exact ⟨_, (by repeat (first | exact Fr.le.nil | refine Fr.le.cons rfl ?_ | refine Fr.le.cons (by show some (Value.int .i64 _) = some (Value.int .i64 _); congr 2; omega) ?_)), (by rw [hon]; exact hO), (fun q hq => .inl (by rw [hu0]; exact hq)), Chg.refl⟩
  rintro u w3 hj3
  obtain ⟨hO, hf, hC⟩ := hj3
  obtain ⟨A1, m1, c1, rfl⟩ := hO.lens
  obtain ⟨hm1, hcell1⟩ := ed_cell hO
  have hbd1 := hbd.open_ (k := s.kind)
  obtain ⟨x1, hx1, hxk⟩ := openE_last l s.kind
  have hl1 := openE_length l s.kind
  have hpos : 0 < m1 := by have := (List.getElem?_eq_some_iff.1 hx1).1; omega
  obtain ⟨a1, x2, rfl, hx2, _, hma1⟩ := hcell1 hpos
  rw [← hm1, hx1] at hx2
  obtain rfl := Option.some.inj hx2
  have hxb := hbd1 x1 (List.mem_of_getElem? hx1)
  obtain ⟨g1, hg1, _⟩ := hO.head (by
    intro h
    have h2 := edL_length (openE l s.kind)
    rw [h] at h2
    simp at h2; omega)
  injection hg1 with hg1
  subst hg1
  have hset := addE_set hx1
  rw [hm1] at hx1 hset
  rw [hm1]
  refine CW.seq_to (X := Unit) (fun _ => [(0, .slice (some ⟨g1, 0, none⟩) m1 c1)]) (fun _ w0 => Own w0 TE 3 (.slice (some ⟨g1, 0, none⟩) m1 c1) (edL (addE l s)) ∧ Chg (fun q => u0.ownBlock = some q) w w0) ?_ ?_
  · skip
    refine CW.seq fun K7 hK7 => ?_
    refine CW.region ?_
    refine WL.val (Y.move rfl) (by decide) ?_
    refine WL.val (Y.eql rfl rfl) (by decide) ?_
    refine WL.nil ?_
    refine hK7 _ _ ?_; try clear hK7 K7
    first | refine CW.condD rfl (fun ht8 => ?_) (fun ht8 => ?_) | refine CW.condND rfl (fun ht8 => ?_) (fun ht8 => ?_) | refine CW.condN rfl (fun ht8 => ?_) (fun ht8 => ?_) | refine CW.cond rfl (fun ht8 => ?_) (fun ht8 => ?_)
    · -- then
      refine CW.region ?_
      refine WL.val (Y.move rfl) (by decide) ?_
      refine WL.val (Y.move rfl) (by decide) ?_
      refine WL.val (Y.subC (c := m1 - 1) rfl rfl (by omega) (by omega)) (by decide) ?_
      refine WL.val (Y.move rfl) (by decide) ?_
      refine WL.val (Y.move rfl) (by decide) ?_
      refine WL.val (Y.subC (c := m1 - 1) rfl rfl (by omega) (by omega)) (by decide) ?_
      refine WL.val (Y.indexAddrN Try.underlying55 rfl rfl sz0_apiEdit (by omega)) (by decide) ?_
      refine WL.val (Y.fieldAddr fo_apiEdit2 rfl) (by decide) ?_
      refine WL.val (Y.load1 Try.underlying9 rfl hma1.apiEdit2 rfl) (by decide) ?_
      refine WL.val (Y.move rfl) (by decide) ?_
      refine WL.val (Y.addS rfl rfl ((by rw [bs_size, bs_size]; omega))) (by decide) ?_
      refine WL.val (Y.indexAddrN Try.underlying55 rfl rfl sz0_apiEdit (by omega)) (by decide) ?_
      refine WL.val (Y.fieldAddr fo_apiEdit2 rfl) (by decide) ?_
      refine WL.storeO (g := g1) (pre := edL ((openE l s.kind).take (m1 - 1)) ++ [.int .i64 (x1.kind : Int), .int .i64 (x1.n : Int)]) (old := [.string (bs x1.text)]) (post := edL ((openE l s.kind).drop (m1 - 1 + 1))) (new := [.string (bs x1.text ++ bs s.str)]) rfl (by rw [add_add, add_zero', List.length_append, edL_length, List.length_take, Nat.min_eq_left (by omega)]; rfl) rfl rfl (by kernel_rfl) (by rw [← (edL_text hx1 []).1]; exact hO) (by first | rfl | (simp [digC_length, opC_length]; done) | (simp only [digC_length, opC_length]; omega)) (one1 rfl) (fun w4 hc4 hB4_ => ?_)
      have hz4 := hc4.size
      obtain ⟨y, rfl⟩ : ∃ y, s = .put y := by
        have ht : (s.kind : Int) = 3 := by assumption
        cases s with
        | put y => exact ⟨y, rfl⟩
        | _ => simp [Stp.kind] at ht
      rw [show bs x1.text ++ bs (Stp.put y).str = bs (x1.text ++ [y]) from bs_append _ _, ← (edL_text hx1 (x1.text ++ [y])).2] at hB4_
      have hO2 : Own w4 TE 3 (.slice (some ⟨g1, 0, none⟩) m1 c1) (edL (addE l (.put y))) := by rw [hset]; exact hB4_
      refine WL.nil ?_
      exact ⟨(), (by repeat (first | exact Fr.le.nil | refine Fr.le.cons rfl ?_)), hO2, hC.trans hc4 (fun q _ h => by have h : q = g1 := h; rw [h]; rcases hf g1 rfl with h | h; exact h; omega)⟩
 
    refine CW.region ?_
    refine WL.val (Y.move rfl) (by decide) ?_
    refine WL.val (Y.move rfl) (by decide) ?_
    refine WL.val (Y.subC (c := m1 - 1) rfl rfl (by omega) (by omega)) (by decide) ?_
    refine WL.val (Y.move rfl) (by decide) ?_
    refine WL.val (Y.move rfl) (by decide) ?_
    refine WL.val (Y.subC (c := m1 - 1) rfl rfl (by omega) (by omega)) (by decide) ?_
    refine WL.val (Y.indexAddrN Try.underlying55 rfl rfl sz0_apiEdit (by omega)) (by decide) ?_
    refine WL.val (Y.fieldAddr fo_apiEdit1 rfl) (by decide) ?_
    refine WL.val (Y.load1 Try.underlying3 rfl hma1.apiEdit1 rfl) (by decide) ?_
    refine WL.val (Y.add rfl rfl ⟨by omega, by omega⟩) (by decide) ?_
    refine WL.val (Y.indexAddrN Try.underlying55 rfl rfl sz0_apiEdit (by omega)) (by decide) ?_
    refine WL.val (Y.fieldAddr fo_apiEdit1 rfl) (by decide) ?_
    refine WL.storeO (g := g1) (pre := edL ((openE l s.kind).take (m1 - 1)) ++ [.int .i64 (x1.kind : Int)]) (old := [.int .i64 (x1.n : Int)]) (post := [.string (bs x1.text)] ++ edL ((openE l s.kind).drop (m1 - 1 + 1))) (new := [.int .i64 ((x1.n : Int) + 1)]) rfl (by rw [add_add, add_zero', List.length_append, edL_length, List.length_take, Nat.min_eq_left (by omega)]; rfl) rfl rfl (by kernel_rfl) (by rw [← (edL_n hx1 0).1]; exact hO) (by first | rfl | (simp [digC_length, opC_length]; done) | (simp only [digC_length, opC_length]; omega)) (one1 rfl) (fun w5 hc5 hB5_ => ?_)
    have hz5 := hc5.size
    have hO2 : Own w5 TE 3 (.slice (some ⟨g1, 0, none⟩) m1 c1) (edL (addE l s)) := by
      have e : ((x1.n : Int) + 1) = ((x1.n + 1 : Nat) : Int) := by omega
      rw [e, ← (edL_n hx1 (x1.n + 1)).2] at hB5_
      have hmo : x1.more s = ⟨x1.kind, x1.n + 1, x1.text⟩ := by
        have ht : ¬ (s.kind : Int) = 3 := by assumption
        cases s with
        | put y => simp [Stp.kind] at ht
        | _ => rfl
      rw [hset, hmo]; exact hB5_
    refine WL.nil ?_
    exact ⟨(), (by repeat (first | exact Fr.le.nil | refine Fr.le.cons rfl ?_)), hO2, hC.trans hc5 (fun q _ h => by have h : q = g1 := h; rw [h]; rcases hf g1 rfl with h | h; exact h; omega)⟩
  rintro u w6 hj6
  obtain ⟨hO2, hC2⟩ := hj6
  refine CW.seq fun K9 hK9 => ?_
  refine CW.region ?_
  refine WL.val (Y.move rfl) (by decide) ?_
  refine WL.val (Y.assign rfl) (by decide) ?_
  refine WL.nil ?_
  refine hK9 _ _ ?_; try clear hK9 K9
  refine CW.ret ⟨_, rfl, ?_⟩
  subst hu0
  exact ⟨hO2, hf, hC2⟩
end Go.Proofs.Ytmndofgagngcgaa
