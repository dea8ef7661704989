/- Parts of a proof: what its last text leans on. No condition. -/
import Derived.Lib.Overlaps
import Derived.Lib.AppendZerosOnto
import Derived.Test.YtjbeooimhoilmaaDoorK10
import Derived.Test.YtjbeooimhoilmaaDoorK11
import Derived.Test.YtjbeooimhoilmaaDoorK19
set_option linter.unusedSimpArgs false
set_option linter.unusedVariables false
/- slices.BinarySearchFunc and slices.Insert at children, walked. No condition. -/
namespace Go.Fw
open Go.RowKit
def Row (w : World) (g : Nat) (e : TypeId) (L : List Value) : Prop := ∃ fz : Nat × Nat, w.heap[g]? = some (.cells L.toArray e fz) ∧ ∀ p, p < L.length → ¬ (fz.1 ≤ p ∧ p < fz.2)
section
variable {w w' : World} {g : Nat} {e : TypeId} {L : List Value} {S : Nat → Prop}
theorem Row.lt (h : Row w g e L) : g < w.heap.size := by obtain ⟨_, h, _⟩ := h; exact (Array.getElem?_eq_some_iff.1 h).1
theorem Row.chg (h : Row w g e L) (hc : Chg S w w') (hs : ¬ S g) : Row w' g e L := by obtain ⟨fz, h1, h2⟩ := h; exact ⟨fz, (hc.block g (Array.getElem?_eq_some_iff.1 h1).1 hs).trans h1, h2⟩
theorem Row.ext (h : Row w g e L) (hc : Ext w w') : Row w' g e L := h.chg hc fun f => f
theorem Row.mem (h : Row w g e L) {d : Nat} {news : List Value} (hn : ∀ j v, news[j]? = some v → L[d + j]? = some v) : Mem w ⟨g, d, none⟩ news := fun j v hj => by
  obtain ⟨fz, h1, _⟩ := h
  have e1 : (⟨g, d, none⟩ : Addr).add j = ⟨g, d + j, none⟩ := by unfold Addr.add; split <;> simp_all
  rw [e1, cell_of_row w g (d + j) _ _ _ h1]
  simpa using hn j v hj
theorem Own.row {k n c : Nat} {xs : List Value} (h : Own w e k (.slice (some ⟨g, 0, none⟩) n c) xs) : ∃ rest, Row w g e (xs ++ rest) ∧ xs.length = n * k ∧ n ≤ c ∧ c ≤ maxLen ∧ (xs ++ rest).length = c * k := by
  rcases h with ⟨h, _⟩ | ⟨g', n', cap, rest, fz, h, hh, hl, hnc, hcm, hr, hf⟩
  · cases h
  · injection h with h1 h2 h3
    injection h1 with h1; injection h1 with h1
    subst h1; subst h2; subst h3
    exact ⟨rest, ⟨fz, hh, fun p hp => hf p (by omega)⟩, hl, hnc, hcm, hr⟩
theorem Row.own {k n c : Nat} {xs rest : List Value} (h : Row w g e (xs ++ rest)) (hl : xs.length = n * k) (hnc : n ≤ c) (hcm : c ≤ maxLen) (hr : (xs ++ rest).length = c * k) : Own w e k (.slice (some ⟨g, 0, none⟩) n c) xs := by
  obtain ⟨fz, h1, h2⟩ := h
  exact .inr ⟨g, n, c, rest, fz, rfl, h1, hl, hnc, hcm, hr, fun o ho => h2 o (by omega)⟩
end
section
variable {P : Program} {n : NN} {Φ : Exit → Fr → World → Prop} {fr : Fr} {w : World} {ty : TypeId}
theorem Y.cap_slice {x : Operand} {A : Option Addr} {m c : Nat} {t e : TypeId} (hT : P.underlying t = some (.slice e)) (hx : ev fr x = some (.slice A m c)) :
    Yw P n fr (.call { callee := .builtin .cap, args := #[x], argTypes := #[t] }) ty w (.int .i64 (c : Int)) w := fun a o' ho _ ha => by
  simp [execOp, ho, resolve, invoke, builtin, ha.ev hx, Builtin.cap_, run_underlying hT, goInt]
theorem WL.callX {ops : Array Oper} {rest : List Oper} {d : Nat} {f : FuncId} {args : List Operand} {tys : Array TypeId} {pos : String} {aft : Array Edge} {vs : List Value} {v : Value}
    (he : evs fr args = some vs) (hr : (callFunc f vs.toArray).run P w = .ok (.value v) w) (hd : d < n.1) (h : WL P ops n Φ rest ((d, v) :: fr) w) :
    WL P ops n Φ (⟨some d, .call { callee := .value (.func f), args := args.toArray, argTypes := tys }, ty, pos, aft, none⟩ :: rest) fr w := fun a ha =>
  wpList_plain rfl fun K hK => by
    have hrun : (execOp a.eval ⟨some d, .call { callee := .value (.func f), args := args.toArray, argTypes := tys }, ty, pos, aft, none⟩).run P w = .ok (.value v) w := by
      have := ha.evs he
      simp [execOp, resolve, invoke, Deferred.ofValue, Act.eval, this, hr]
    unfold Oper.wp
    rw [hrun]
    exact hK _ _ (h _ (ha.put hd v))
theorem Y.convR {x : Operand} {k k' : IntKind} {p r : Int} {s d : TypeId} {ds : TypeDesc} (hs : P.underlying s = some ds) (hd : P.underlying d = some (.int k')) (hx : ev fr x = some (.int k p)) (hr : k'.wrap p = r) :
    Yw P n fr (.convert s d x) ty w (.int k' r) w := by have := Y.conv_int (n := n) (ty := ty) (w := w) hs hd hx; rwa [hr] at this
theorem shr_mid {a b : Nat} (h : a + b < 9223372036854775808) : (IntKind.u64.wrap ((a : Int) + (b : Int))).fdiv (2 ^ (min (1 : Int).toNat IntKind.u64.bits)) = (((a + b) / 2 : Nat) : Int) := by
  have e : IntKind.u64.wrap ((a : Int) + (b : Int)) = ((a + b : Nat) : Int) := by simp [IntKind.wrap, IntKind.bits, IntKind.signed]; omega
  rw [e]
  show ((a + b : Nat) : Int).fdiv 2 = _
  rw [Int.fdiv_eq_ediv_of_nonneg _ (by omega)]; omega
theorem WL.gcallV {ops : Array Oper} {rest : List Oper} {d t j dj : Nat} {b : Bool} {f : FuncId} {args : List Operand} {tys : Array TypeId} {pos : String} {aft : Array Edge} {vs cap : List Value} {fn : Func}
    {R : Value → World → Prop} (hj : (ops[j]?).bind (·.dst) = some dj) (hg : fr.get dj = some (.bool b)) (ht : fr.get t = some (.func (.func f) #[] cap.toArray))
    (hf : P.funcs[f]? = some fn) (hb : fn.body.isNone = false) (hn : (fn.name == "runtime.NumGoroutine") = false)
    (he : evs fr args = some vs) (hC : Calls P f (vs ++ cap).toArray w (Ret R)) (hd : d < n.1)
    (h : ∀ v w', R v w' → WL P ops n Φ rest ((d, v) :: fr) w') :
    WL P ops n Φ (⟨some d, .call { callee := .value (.tmp t), args := args.toArray, argTypes := tys }, ty, pos, aft, some (j, b)⟩ :: rest) fr w := fun a ha =>
  wpList_step fun K hK => by
    rw [if_pos (by simp [Region.wanted, yielded_eq ha hj hg])]
    have hrun : (execOp a.eval ⟨some d, .call { callee := .value (.tmp t), args := args.toArray, argTypes := tys }, ty, pos, aft, some (j, b)⟩).run P w = .ok (.enter f (vs ++ cap).toArray) w := by
      have h1 := ha.evs he
      have h2 := ha.get _ _ ht
      simp [execOp, resolve, invoke, Deferred.ofValue, Act.eval, h1, h2, run_callFunc hf hb hn]
    unfold Oper.wp
    rw [hrun]
    refine hC.mono fun e w' he' => ?_
    cases e with
    | returned v => exact hK _ _ (h v w' he' _ (ha.put hd v))
    | panicked ch => exact he'.elim
    | outgrown => exact he'.elim
theorem St.copyRow {d s : Operand} {t t' e : TypeId} {g i m j cd cs : Nat} {A D : Addr} {L news : List Value}
    (hT : P.underlying t = some (.slice e)) (hS : (P.info? e).map (·.size) = some 1) (hd : ev fr d = some (.slice (some D) m cd)) (hD : D = ⟨g, i, none⟩) (hs : ev fr s = some (.slice (some A) j cs))
    (hm : Mem w A news) (hl : news.length = min j m) (hb : Row w g e L) (hlo : i + news.length ≤ L.length) (h1 : ∀ u ∈ news, u.oneCell' = true) :
    St P n fr (.call { callee := .builtin .copy, args := #[d, s], argTypes := #[t, t'] }) ty w (fun v w' => v = .int .i64 ((min j m : Nat) : Int) ∧ Chg (· = g) w w' ∧ Row w' g e (L.take i ++ news ++ L.drop (i + news.length))) := fun a o' ho hty ha => by
  obtain ⟨fz, hg, hf⟩ := hb
  have hst := storeCells_own (P := P) g i e fz news 0 L.toArray w hg (by simpa using hlo) h1 (fun p hp => hf p (by simpa using hp))
  have hld := run_loadCells_list (P := P) w A news hm
  have e0 : (L.toArray.toList.take (i + 0) ++ news ++ L.toArray.toList.drop (i + 0 + news.length)).toArray = (L.take i ++ news ++ L.drop (i + news.length)).toArray := by simp
  rw [e0] at hst
  refine ⟨.int .i64 ((min j m : Nat) : Int), w.setRow g (L.take i ++ news ++ L.drop (i + news.length)).toArray, ?_, rfl, ⟨rfl, rfl, rfl, by simp, fun k hk hn => setRow_other w g k _ hn, Nat.le_refl _⟩, ⟨fz, setRow_heap w g _ _ e fz hg, fun p hp => hf p ?_⟩⟩
  · subst hD
    rw [hl] at hld
    have e1 : (Builtin.copy_ #[t, t'] o'.type #[.slice (some ⟨g, i, none⟩) m cd, .slice (some A) j cs]).run P w = .ok (.int .i64 ((min j m : Nat) : Int)) (w.setRow g (L.take i ++ news ++ L.drop (i + news.length)).toArray) := by
      simp [Builtin.copy_, run_underlying hT, fw_sizeOf hS, Builtin.lenOf, Builtin.firstCells, hld, hst, goInt]
    simp [execOp, ho, resolve, invoke, builtin, ha.ev hd, ha.ev hs, e1]
  · simp only [List.length_append, List.length_take, List.length_drop] at hp; omega
end
theorem ptrL_app (a b : List Nat) : ptrL (a ++ b) = ptrL a ++ ptrL b := by simp [ptrL]
theorem ptrL_take (l : List Nat) (i : Nat) : (ptrL l).take i = ptrL (l.take i) := by have := flat_take pC_length l i; rwa [Nat.mul_one] at this
theorem ptrL_drop (l : List Nat) (i : Nat) : (ptrL l).drop i = ptrL (l.drop i) := by have := flat_drop pC_length l i; rwa [Nat.mul_one] at this
theorem one_ptrL {l : List Nat} : ∀ u ∈ ptrL l, u.oneCell' = true := by
  intro u hu
  obtain ⟨c, hc, hu⟩ := List.mem_flatten.1 hu
  obtain ⟨x, _, rfl⟩ := List.mem_map.1 hc
  simp at hu; subst hu; rfl
end Go.Fw
namespace Go.Proofs.YtjbeooimhoilmaaDoor
open Go.RowKit Go.Fw Go.Fu Go.Pl
abbrev UP := Tryd.underlying80
theorem ai_ptr : AppInfo Tryd.prog TP 1 8 := by
  have h : (Tryd.prog.info? TP).map (fun i => (i.size, i.bytes, i.zero)) = some (1, 8, some (.pointer none)) := by kernel_rfl
  obtain ⟨i, hi, h⟩ := Option.map_eq_some_iff.1 h
  injection h with h1 h2
  injection h2 with h2 h3
  exact ⟨i, _, hi, h3, h1, rfl, h2, by decide, by decide⟩
theorem bs1_ptr (c : Nat) (w : World) : (Instr.buildSlice 80 1 [(0, Value.pointer (some ⟨c, 0, none⟩))].toArray).run Tryd.prog w = .ok (.slice (some ⟨w.heap.size, 0, none⟩) 1 1) (w.alloc (.cells (pC c).toArray TP)) := by
  obtain ⟨i, z, hi, hz, hs, _, _, h0, _⟩ := ai_ptr
  exact run_bs1 UP hi hz (by omega) (by omega) rfl (by rw [hs]; rfl) w
theorem St.appendZ {n : NN} {fr : Fr} {w : World} {ty : TypeId} {s x : Operand} {A : Option Addr} {i c k : Nat} {z0 : Int} {l : List Nat} (hs : ev fr s = some (.slice A i c)) (hx : ev fr x = some (.int .i64 z0)) (hz0 : z0 = (k : Int))
    (hl : l.length = i) (hA : 0 < i → ∃ a, A = some a ∧ Mem w a (ptrL l)) (hk : 0 < k) (hg : c < i + k) (hb : (i + k) * 8 ≤ 140737488355328) :
    St Tryd.prog n fr (.call { callee := .builtin .append, args := #[s, x], argTypes := #[80, 3] }) ty w (fun v w' => ∃ gN cap rest, v = .slice (some ⟨gN, 0, none⟩) (i + k) cap ∧ w.heap.size ≤ gN ∧ i + k ≤ cap ∧ cap ≤ maxLen ∧ Row w' gN TP (ptrL l ++ rest) ∧ (ptrL l ++ rest).length = cap ∧ Ext w w') := fun a o' ho hty ha => by
  subst hz0
  obtain ⟨it, z, hi, hz, hsz, hzc, hby, _, _⟩ := ai_ptr
  have hold : (Builtin.firstCells it.size i (.slice A i c)).run Tryd.prog w.drew = .ok (ptrL l).toArray w.drew := by
    rw [hsz]
    by_cases h0 : i = 0
    · subst h0
      have : l = [] := List.length_eq_zero_iff.1 hl
      subst this
      cases A with
      | none => exact run_firstCells_none w.drew 1 0 0 c
      | some a => exact run_firstCells_some w.drew 1 0 a 0 c [] rfl (fun j v h => by simp at h)
    · obtain ⟨a, rfl, hm⟩ := hA (by omega)
      exact run_firstCells_some w.drew 1 i a i c (ptrL l) (by rw [ptrL_length, hl]; omega) (fun j v h => hm j v h)
  have hfit : Builtin.nextslicecap (i + k) c * it.bytes ≤ 281474976710656 := by rw [hby]; exact growslice_fits hg hb
  have hrun := Lib.run_append_grow_zeros w 80 3 o'.type TP it z .i64 .i64 UP Tryd.underlying3 hi hz A i c (ptrL l) hold k hk (by omega) hg (by omega) (by rw [hby]; omega) hfit
  have hcap := grownCap_ge w (i + k) c TP
  have hcm := grownCap_le_maxLen w (i + k) c TP (by unfold maxLen; omega)
  obtain ⟨G, hG⟩ : ∃ G, G = grownCap w (i + k) c TP := ⟨_, rfl⟩
  rw [← hG] at hrun hcap hcm
  have hzl : ∀ m, (Builtin.zeroCells z.cells m).toList.length = m := fun m => by
    simp [Builtin.zeroCells, hzc]
  refine ⟨.slice (some ⟨w.heap.size, 0, none⟩) (i + k) G, w.drew.alloc (.cells ((ptrL l).toArray ++ Builtin.zeroCells z.cells k ++ Builtin.zeroCells z.cells (G - (i + k))) TP), by simp [execOp, ho, resolve, invoke, builtin, ha.ev hs, ha.ev hx, hrun], w.heap.size, G, (Builtin.zeroCells z.cells k).toList ++ (Builtin.zeroCells z.cells (G - (i + k))).toList, rfl, Nat.le_refl _, hcap, hcm, ⟨(0, 0), ?_, fun p _ h => by omega⟩, ?_, (Chg.drew.thenExt (Chg.alloc _))⟩
  · have := heap_alloc_new w.drew (.cells ((ptrL l).toArray ++ Builtin.zeroCells z.cells k ++ Builtin.zeroCells z.cells (G - (i + k))) TP)
    rw [show (ptrL l ++ ((Builtin.zeroCells z.cells k).toList ++ (Builtin.zeroCells z.cells (G - (i + k))).toList)).toArray = (ptrL l).toArray ++ Builtin.zeroCells z.cells k ++ Builtin.zeroCells z.cells (G - (i + k)) by simp]
    exact this
  · rw [List.length_append, List.length_append, hzl, hzl, ptrL_length, hl]; omega
theorem row_grow {P R N D X : List Value} {i : Nat} (hP : P.length = i) (hN : N.length = 1) : ((P ++ R).take i ++ N ++ (P ++ R).drop (i + 1)).take (i + 1) ++ D ++ X = (P ++ N ++ D) ++ X := by
  have e1 : (P ++ R).take i = P := by rw [← hP]; simp
  rw [e1, List.take_append_of_le_length (by simp [hP, hN]), List.take_of_length_le (by simp [hP, hN])]
theorem row_shift {P D R N : List Value} {i d : Nat} (hP : P.length = i) (hD : D.length = d) (hN : N.length = 1) (hR : 1 ≤ R.length) :
    ((P ++ D ++ R).take (i + 1) ++ D ++ (P ++ D ++ R).drop (i + 1 + d)).take i ++ N ++ ((P ++ D ++ R).take (i + 1) ++ D ++ (P ++ D ++ R).drop (i + 1 + d)).drop (i + 1) = (P ++ N ++ D) ++ R.drop 1 := by
  have e1 : (P ++ D ++ R).drop (i + 1 + d) = R.drop 1 := by
    rw [show i + 1 + d = (P ++ D).length + 1 by simp [hP, hD]; omega, List.drop_append]; simp
  have hA : ((P ++ D ++ R).take (i + 1)).length = i + 1 := by simp [hP, hD]; omega
  have e2 : ((P ++ D ++ R).take (i + 1) ++ D ++ (P ++ D ++ R).drop (i + 1 + d)).take i = P := by
    rw [List.append_assoc, List.take_append_of_le_length (by omega), List.take_take, Nat.min_eq_left (by omega), List.append_assoc, List.take_append_of_le_length (by omega), ← hP, List.take_length]
  have e3 : ((P ++ D ++ R).take (i + 1) ++ D ++ (P ++ D ++ R).drop (i + 1 + d)).drop (i + 1) = D ++ R.drop 1 := by
    rw [List.append_assoc, List.drop_append_of_le_length (by omega), List.drop_of_length_le (by omega), e1]; simp
  rw [e2, e3]; simp
theorem run_ov {L : List Value} (w : World) (gv g j x lb cb : Nat) (hv : Blk w gv TP (pC x)) (hR : Row w g TP L) (hL : L.length ≠ 0) (hne : gv ≠ g) :
    (callFunc 56 #[.slice (some ⟨gv, 0, none⟩) 1 1, .slice (some ⟨g, j, none⟩) lb cb]).run Tryd.prog w = .ok (.value (.bool false)) w := by
  obtain ⟨fz, hg, hf⟩ := hR
  have hv' : w.heap[gv]? = some (.cells (pC x).toArray TP (0, 0)) := hv
  rw [run_callFunc_extern Tryd.func56 (by kernel_rfl) (by kernel_rfl) (by kernel_rfl) (e := Extern.SlicesOverlaps.overlaps #[80, 80] #[4]) (by kernel_rfl),
    Lib.run_overlaps_apart w 80 4 TP UP 1 (fun w => fw_sizeOf sz0_fuguenode) ⟨gv, 0, none⟩ ⟨g, j, none⟩ 1 1 lb cb hne TP TP 1 L.length (by simp [World.shape?, hv']) (by simp [World.shape?, hg]) hL (by simp [World.frozen?, hv']) (by simp [World.frozen?, hv'])]
  rfl
theorem fbs_any (u : Value) (l : List Nat) (tg : Nat) (r : RefD) (f : Nat → RefD) (w : World) (hu : Own w TP 1 u (ptrL l)) (hn : l.length ≤ 400001) (hb : ∀ c ∈ l, ∃ x lv rv, Blk w c TN (nodeC x lv rv) ∧ x.name = f c) (ht : ∃ x lv rv, Blk w tg TN (nodeC x lv rv) ∧ x.name = r) (hi : ∀ c ∈ l, InI64 ((f c).n - r.n)) (hs : ∀ a b : Nat, a < b → ∀ x y, l[a]? = some x → l[b]? = some y → ordI (f y) r < 0 → ordI (f x) r < 0) : Calls Tryd.prog 40 #[u, .pointer (some ⟨tg, 0, none⟩), .func (.func 41) #[] #[]] w (Ret fun v w' => (∃ (k : Nat) (b : Bool), v = .tuple #[.int .i64 (k : Int), .bool b] ∧ k ≤ l.length ∧ (∀ (t : Nat) (x : Nat), t < k → l[t]? = some x → ordI (f x) r < 0) ∧ ∀ (t : Nat) (x : Nat), k ≤ t → l[t]? = some x → 0 ≤ ordI (f x) r) ∧ Ext w w') := by
  obtain ⟨A, m, c, rfl⟩ := hu.lens
  obtain ⟨hm0, _, hml, hmc, hcm⟩ := hu.mem A m c rfl
  rw [ptrL_length, Nat.mul_one] at hml
  unfold maxLen at hcm
  obtain ⟨xt, lt, rt, hBt, hxt⟩ := ht
  refine calls_of_CW 49 [6, 7] [(0, .slice A m c), (1, .pointer (some ⟨tg, 0, none⟩)), (2, .func (.func 41) #[] #[])] Tryd.func40 rfl rfl rfl (by simp) args3 ?_
  have hE : Ext w w := Chg.refl
  refine CW.seq fun K1 hK1 => ?_
  refine CW.region ?_
  refine WL.val (Y.assign rfl) (by decide) ?_
  refine WL.val (Y.assign rfl) (by decide) ?_
  refine WL.nil ?_
  refine hK1 _ _ ?_; try clear hK1 K1
  refine CW.seq fun K2 hK2 => ?_
  refine CW.region ?_
  refine WL.val (Y.move rfl) (by decide) ?_
  refine WL.val (Y.len_slice Tryd.underlying80 rfl) (by decide) ?_
  refine WL.val (Y.assign rfl) (by decide) ?_
  refine WL.nil ?_
  refine hK2 _ _ ?_; try clear hK2 K2
  refine CW.seq fun K3 hK3 => ?_
  refine CW.region ?_
  refine WL.val (Y.move rfl) (by decide) ?_
  refine WL.val (Y.assign rfl) (by decide) ?_
  refine WL.val (Y.assign rfl) (by decide) ?_
  refine WL.nil ?_
  refine hK3 _ _ ?_; try clear hK3 K3
  refine CW.seq fun K4 hK4 => ?_
  refine CW.block ?_
  refine CW.loop (X := Nat × Nat) (fun x => [(0, .slice A m c), (1, .pointer (some ⟨tg, 0, none⟩)), (2, .func (.func 41) #[] #[]), (8, .int .i64 (m : Int)), (9, .int .i64 (x.1 : Int)), (10, .int .i64 (x.2 : Int))]) (fun x w0 => x.1 ≤ x.2 ∧ x.2 ≤ m ∧ (∀ (t y : Nat), t < x.1 → l[t]? = some y → ordI (f y) r < 0) ∧ (∀ (t y : Nat), x.2 ≤ t → l[t]? = some y → 0 ≤ ordI (f y) r) ∧ Ext w w0) (fun x => x.2 - x.1) (0, m) (by repeat (first | exact Fr.le.nil | refine Fr.le.cons rfl ?_)) ⟨Nat.zero_le _, Nat.le_refl _, (fun t y h => absurd h (Nat.not_lt_zero t)), (fun t y h1 h2 => by have := (List.getElem?_eq_some_iff.1 h2).1; have h1 : m ≤ t := h1; omega), hE⟩ ?_
  intro x w1 hl1
  obtain ⟨lo, hi2⟩ := x
  dsimp only at hl1 ⊢
  obtain ⟨h1, h2, h3, h4, hE⟩ := hl1
  have hzl := hE.size
  refine CW.seq fun K5 hK5 => ?_
  refine CW.seq fun K6 hK6 => ?_
  refine CW.region ?_
  refine WL.val (Y.move rfl) (by decide) ?_
  refine WL.val (Y.move rfl) (by decide) ?_
  refine WL.val (Y.lss rfl rfl) (by decide) ?_
  refine WL.nil ?_
  refine hK6 _ _ ?_; try clear hK6 K6
  first | refine CW.condD rfl (fun ht7 => ?_) (fun ht7 => ?_) | refine CW.condND rfl (fun ht7 => ?_) (fun ht7 => ?_) | refine CW.condN rfl (fun ht7 => ?_) (fun ht7 => ?_) | refine CW.cond rfl (fun ht7 => ?_) (fun ht7 => ?_)
  · -- then
    refine CW.skip ?_
    refine hK5 _ _ ?_; try clear hK5 K5
    refine CW.block ?_
    refine CW.seq fun K8 hK8 => ?_
    refine CW.region ?_
    refine WL.val (Y.move rfl) (by decide) ?_
    refine WL.val (Y.move rfl) (by decide) ?_
    refine WL.val (Y.add rfl rfl ⟨by omega, by omega⟩) (by decide) ?_
    refine WL.val (Y.conv_int Tryd.underlying3 Tryd.underlying120 rfl) (by decide) ?_
    refine WL.val (Y.shr rfl rfl (by omega) (shr_mid (by omega))) (by decide) ?_
    refine WL.val (Y.convR Tryd.underlying120 Tryd.underlying3 rfl (wrap_i64_in ⟨by omega, by omega⟩)) (by decide) ?_
    refine WL.val (Y.assign rfl) (by decide) ?_
    refine WL.nil ?_
    refine hK8 _ _ ?_; try clear hK8 K8
    refine CW.seq fun K9 hK9 => ?_
    obtain ⟨y, hy⟩ : ∃ y, l[(lo + hi2) / 2]? = some y := ⟨_, List.getElem?_eq_getElem (by omega)⟩
    obtain ⟨a, rfl, hma⟩ := (hu.sl pC_length (by decide)).get hy
    obtain ⟨xq, lq, rq, hBq, hxq⟩ := hb y (List.mem_of_getElem? hy)
    refine CW.region ?_
    refine WL.val (Y.move rfl) (by decide) ?_
    refine WL.val (Y.move rfl) (by decide) ?_
    refine WL.val (Y.move rfl) (by decide) ?_
    refine WL.val (Y.indexAddrN Tryd.underlying80 rfl rfl sz0_fuguenode (by omega)) (by decide) ?_
    refine WL.val (Y.load1 Tryd.underlying82 rfl ((hma.ext hE).cell0) rfl) (by decide) ?_
    refine WL.val (Y.move rfl) (by decide) ?_
    refine WL.callV rfl Tryd.func41 rfl rfl rfl (forder_any y tg xq xt _ _ _ _ _ (hBq.ext hE) (hBt.ext hE) (by rw [hxq, hxt]; exact hi y (List.mem_of_getElem? hy))) (by simp) ?_; rintro v30 w2 hR2
    obtain ⟨rfl, hx2⟩ := hR2
    rw [hxq, hxt]
    have hE := hE.thenExt hx2
    refine WL.val (Y.lss rfl rfl) (by decide) ?_
    refine WL.nil ?_
    refine hK9 _ _ ?_; try clear hK9 K9
    first | refine CW.condD rfl (fun ht10 => ?_) (fun ht10 => ?_) | refine CW.condND rfl (fun ht10 => ?_) (fun ht10 => ?_) | refine CW.condN rfl (fun ht10 => ?_) (fun ht10 => ?_) | refine CW.cond rfl (fun ht10 => ?_) (fun ht10 => ?_)
    · -- then
      refine CW.region ?_
      refine WL.val (Y.move rfl) (by decide) ?_
      refine WL.val (Y.add rfl rfl ⟨by omega, by omega⟩) (by decide) ?_
      refine WL.val (Y.assign rfl) (by decide) ?_
      refine WL.nil ?_
      exact ⟨((lo + hi2) / 2 + 1, hi2), (by show hi2 - ((lo + hi2) / 2 + 1) < hi2 - lo; omega), (by repeat (first | exact Fr.le.nil | refine Fr.le.cons rfl ?_)), (by show (lo + hi2) / 2 + 1 ≤ hi2; omega), h2, (fun t z ht hz => by
        by_cases e : t = (lo + hi2) / 2
        · subst e; rw [hy] at hz; cases hz; assumption
        · exact hs t _ (by have ht : t < (lo + hi2) / 2 + 1 := ht; omega) z y hz hy (by assumption)), h4, hE⟩
    refine CW.region ?_
    refine WL.val (Y.move rfl) (by decide) ?_
    refine WL.val (Y.assign rfl) (by decide) ?_
    refine WL.nil ?_
    exact ⟨(lo, (lo + hi2) / 2), (by show (lo + hi2) / 2 - lo < hi2 - lo; omega), (by repeat (first | exact Fr.le.nil | refine Fr.le.cons rfl ?_)), (by show lo ≤ (lo + hi2) / 2; omega), (by show (lo + hi2) / 2 ≤ m; omega), h3, (fun t z ht hz => Int.not_lt.1 fun hn => by
      by_cases e : t = (lo + hi2) / 2
      · subst e; rw [hy] at hz; cases hz; contradiction
      · exact absurd (hs _ t (by have ht : (lo + hi2) / 2 ≤ t := ht; omega) y z hy hz hn) (by assumption)), hE⟩
  refine CW.exit ?_
  refine hK4 _ _ ?_; try clear hK4 K4
  refine CW.seq fun K11 hK11 => ?_
  refine CW.region ?_
  refine WL.val (Y.move rfl) (by decide) ?_
  refine WL.val (Y.move rfl) (by decide) ?_
  refine WL.val (Y.move rfl) (by decide) ?_
  refine WL.val (Y.lss rfl rfl) (by decide) ?_
  refine WL.val (Y.move rfl) (by decide) ?_
  first | refine WL.casesD (d := 39) rfl (fun hg39 => ?_) (fun hg39 => ?_) | refine WL.casesND (d := 39) rfl (fun hg39 => ?_) (fun hg39 => ?_) | refine WL.cases (d := 39) rfl (fun hg39 => ?_) (fun hg39 => ?_)
  · -- t39 = T
    refine WL.gval rfl rfl (Y.move rfl) (by decide) ?_
    refine WL.gval rfl rfl (Y.move rfl) (by decide) ?_
    refine WL.gval rfl rfl (Y.move rfl) (by decide) ?_
    obtain ⟨y, hy⟩ : ∃ y, l[lo]? = some y := ⟨_, List.getElem?_eq_getElem (by omega)⟩
    obtain ⟨a, rfl, hma⟩ := (hu.sl pC_length (by decide)).get hy
    obtain ⟨xq, lq, rq, hBq, hxq⟩ := hb y (List.mem_of_getElem? hy)
    refine WL.gval rfl rfl (Y.indexAddrN Tryd.underlying80 rfl rfl sz0_fuguenode (by omega)) (by decide) ?_
    refine WL.gval rfl rfl (Y.load1 Tryd.underlying82 rfl ((hma.ext hE).cell0) rfl) (by decide) ?_
    refine WL.gval rfl rfl (Y.move rfl) (by decide) ?_
    refine WL.gcallV rfl rfl rfl Tryd.func41 rfl rfl rfl (forder_any y tg xq xt _ _ _ _ _ (hBq.ext hE) (hBt.ext hE) (by rw [hxq, hxt]; exact hi y (List.mem_of_getElem? hy))) (by decide) ?_; rintro v46 w3 hR3
    obtain ⟨rfl, hx3⟩ := hR3
    have hE := hE.thenExt hx3
    refine WL.gval rfl rfl (Y.eql rfl rfl) (by decide) ?_
    refine WL.val (Y.pick rfl rfl) (by decide) ?_
    refine WL.val (Y.assign rfl) (by decide) ?_
    refine WL.val (Y.assign rfl) (by decide) ?_
    refine WL.nil ?_
    refine hK11 _ _ ?_; try clear hK11 K11
    refine CW.ret ⟨_, rfl, ?_⟩
    exact ⟨⟨lo, _, rfl, by omega, h3, (fun t x ht hx => h4 t x (by omega) hx)⟩, hE⟩
  · -- t39 = F
    refine WL.goff rfl rfl (by decide) ?_
    refine WL.goff rfl rfl (by decide) ?_
    refine WL.goff rfl rfl (by decide) ?_
    refine WL.goff rfl rfl (by decide) ?_
    refine WL.goff rfl rfl (by decide) ?_
    refine WL.goff rfl rfl (by decide) ?_
    refine WL.goff rfl rfl (by decide) ?_
    refine WL.goff rfl rfl (by decide) ?_
    refine WL.val (Y.pick rfl rfl) (by decide) ?_
    refine WL.val (Y.assign rfl) (by decide) ?_
    refine WL.val (Y.assign rfl) (by decide) ?_
    refine WL.nil ?_
    refine hK11 _ _ ?_; try clear hK11 K11
    refine CW.ret ⟨_, rfl, ?_⟩
    exact ⟨⟨lo, _, rfl, by omega, h3, (fun t x ht hx => h4 t x (by omega) hx)⟩, hE⟩
set_option maxRecDepth 100000 in
set_option maxHeartbeats 1000000 in
theorem fins_any (u : Value) (l : List Nat) (i x gv : Nat) (w : World) (hu : Own w TP 1 u (ptrL l)) (hi : i ≤ l.length) (hv : Blk w gv TP (pC x)) (hne : u.ownBlock ≠ some gv) (hn : l.length ≤ 400001) : Calls Tryd.prog 42 #[u, .int .i64 (i : Int), .slice (some ⟨gv, 0, none⟩) 1 1] w (Ret fun v w' => Own w' TP 1 v (ptrL (l.take i ++ x :: l.drop i)) ∧ Chg (fun k => u.ownBlock = some k) w w' ∧ (v.ownBlock = u.ownBlock ∨ ∀ k, v.ownBlock = some k → w.heap.size ≤ k)) := by
  obtain ⟨A, n, c, rfl⟩ := hu.lens
  obtain ⟨hm0, hnone, hml, hmc, hcm⟩ := hu.mem A n c rfl
  rw [ptrL_length, Nat.mul_one] at hml
  unfold maxLen at hcm
  have hvm := hv.mem
  refine calls_of_CW 95 [6] [(0, .slice A n c), (1, .int .i64 (i : Int)), (2, .slice (some ⟨gv, 0, none⟩) 1 1)] Tryd.func42 rfl rfl rfl (by simp) args3 ?_
  have hE : Ext w w := Chg.refl
  refine CW.seq fun K1 hK1 => ?_
  refine CW.region ?_
  refine WL.val (Y.assign rfl) (by decide) ?_
  refine WL.nil ?_
  refine hK1 _ _ ?_; try clear hK1 K1
  refine CW.seq fun K2 hK2 => ?_
  refine CW.region ?_
  refine WL.val (Y.move rfl) (by decide) ?_
  refine WL.val (Y.move rfl) (by decide) ?_
  refine WL.val (Y.slice_lo Tryd.underlying80 rfl rfl sz0_fuguenode rfl (by omega)) (by decide) ?_
  refine WL.nil ?_
  refine hK2 _ _ ?_; try clear hK2 K2
  refine CW.seq fun K3 hK3 => ?_
  refine CW.region ?_
  refine WL.val (Y.move rfl) (by decide) ?_
  refine WL.val (Y.len_slice Tryd.underlying80 rfl) (by decide) ?_
  refine WL.val (Y.assign rfl) (by decide) ?_
  refine WL.nil ?_
  refine hK3 _ _ ?_; try clear hK3 K3
  refine CW.seq fun K4 hK4 => ?_
  refine CW.seq fun K5 hK5 => ?_
  refine CW.region ?_
  refine WL.val (Y.move rfl) (by decide) ?_
  refine WL.val (Y.eql rfl rfl) (by decide) ?_
  refine WL.nil ?_
  refine hK5 _ _ ?_; try clear hK5 K5
  first | refine CW.condD rfl (fun ht6 => ?_) (fun ht6 => ?_) | refine CW.condND rfl (fun ht6 => ?_) (fun ht6 => ?_) | refine CW.condN rfl (fun ht6 => ?_) (fun ht6 => ?_) | refine CW.cond rfl (fun ht6 => ?_) (fun ht6 => ?_)
  · -- then
    refine CW.seq fun K7 hK7 => ?_
    refine CW.region ?_
    refine WL.val (Y.move rfl) (by decide) ?_
    refine WL.val (Y.assign rfl) (by decide) ?_
    refine WL.nil ?_
    refine hK7 _ _ ?_; try clear hK7 K7
    refine CW.ret ⟨_, rfl, ?_⟩
    exfalso; omega
  refine CW.skip ?_
  refine hK4 _ _ ?_; try clear hK4 K4
  refine CW.seq fun K8 hK8 => ?_
  refine CW.region ?_
  refine WL.val (Y.move rfl) (by decide) ?_
  refine WL.val (Y.len_slice Tryd.underlying80 rfl) (by decide) ?_
  refine WL.val (Y.assign rfl) (by decide) ?_
  refine WL.nil ?_
  refine hK8 _ _ ?_; try clear hK8 K8
  refine CW.seq fun K9 hK9 => ?_
  refine CW.seq fun K10 hK10 => ?_
  refine CW.region ?_
  refine WL.val (Y.move rfl) (by decide) ?_
  refine WL.val (Y.move rfl) (by decide) ?_
  refine WL.val (Y.eql rfl rfl) (by decide) ?_
  refine WL.nil ?_
  refine hK10 _ _ ?_; try clear hK10 K10
  first | refine CW.condD rfl (fun ht11 => ?_) (fun ht11 => ?_) | refine CW.condND rfl (fun ht11 => ?_) (fun ht11 => ?_) | refine CW.condN rfl (fun ht11 => ?_) (fun ht11 => ?_) | refine CW.cond rfl (fun ht11 => ?_) (fun ht11 => ?_)
  · -- then
    refine CW.seq fun K12 hK12 => ?_
    refine CW.region ?_
    refine WL.val (Y.move rfl) (by decide) ?_
    refine WL.val (Y.move rfl) (by decide) ?_
    refine WL.st (St.append (m := 1) (news := ptrL [x]) UP UP ai_ptr rfl rfl hu (Fw.Src.one hv rfl) one_ptrL (by rw [ptrL_length]; omega)) (by decide) fun v25 w1 hR1 => ?_
    obtain ⟨hO, hc1, hf1⟩ := hR1
    refine WL.val (Y.assign rfl) (by decide) ?_
    refine WL.nil ?_
    refine hK12 _ _ ?_; try clear hK12 K12
    refine CW.ret ⟨_, rfl, ?_⟩
    exact ⟨by rw [List.take_of_length_le (by omega), List.drop_eq_nil_of_le (by omega)]; rw [← ptrL_app] at hO; exact hO, hc1, hf1⟩
  refine CW.skip ?_
  refine hK9 _ _ ?_; try clear hK9 K9
  refine CW.seq fun K13 hK13 => ?_
  refine CW.seq fun K14 hK14 => ?_
  have hin : i < n := by omega
  obtain ⟨g, rfl, hgl⟩ := hu.head (fun h => by have := congrArg List.length h; rw [ptrL_length, List.length_nil] at this; omega)
  obtain ⟨rest, hRw, _, _, _, hrl⟩ := hu.row
  rw [List.length_append, ptrL_length] at hrl
  have hmem : Mem w ⟨g, 0, none⟩ (ptrL l) := hRw.mem (d := 0) (fun j v h => by rw [Nat.zero_add, List.getElem?_append_left (List.getElem?_eq_some_iff.1 h).1]; exact h)
  have hgv : g ≠ gv := fun e => hne (by rw [e]; rfl)
  refine CW.region ?_
  refine WL.val (Y.move rfl) (by decide) ?_
  refine WL.val (Y.move rfl) (by decide) ?_
  refine WL.val (Y.add rfl rfl ⟨by omega, by omega⟩) (by decide) ?_
  refine WL.val (Y.move rfl) (by decide) ?_
  refine WL.val (Y.cap_slice Tryd.underlying80 rfl) (by decide) ?_
  refine WL.val (Y.gtr rfl rfl) (by decide) ?_
  refine WL.nil ?_
  refine hK14 _ _ ?_; try clear hK14 K14
  first | refine CW.condD rfl (fun ht15 => ?_) (fun ht15 => ?_) | refine CW.condND rfl (fun ht15 => ?_) (fun ht15 => ?_) | refine CW.condN rfl (fun ht15 => ?_) (fun ht15 => ?_) | refine CW.cond rfl (fun ht15 => ?_) (fun ht15 => ?_)
  · -- then
    refine CW.seq fun K16 hK16 => ?_
    refine CW.region ?_
    refine WL.val (Y.move rfl) (by decide) ?_
    refine WL.val (Y.move rfl) (by decide) ?_
    refine WL.val (Y.slice_hi Tryd.underlying80 rfl rfl sz0_fuguenode rfl (by omega)) (by decide) ?_
    refine WL.val (Y.move rfl) (by decide) ?_
    refine WL.val (Y.move rfl) (by decide) ?_
    refine WL.val (Y.add rfl rfl ⟨by omega, by omega⟩) (by decide) ?_
    refine WL.val (Y.move rfl) (by decide) ?_
    refine WL.val (Y.sub rfl rfl ⟨by omega, by omega⟩) (by decide) ?_
    refine WL.st (St.appendZ (l := l.take i) (k := n + 1 - i) rfl rfl (by omega) (by rw [List.length_take]; omega) (fun h0 => ⟨_, rfl, by rw [← ptrL_take]; exact hmem.take i⟩) (by omega) (by omega) (by omega)) (by decide) fun v40 w2 hR2 => ?_
    obtain ⟨gN, cN, rN, rfl, hgN, hnc, hcN, hRN, hrN, hx2⟩ := hR2
    unfold maxLen at hcN
    have hz2 := hx2.size
    have hE := hE.thenExt hx2
    have hvm := hvm.ext hx2
    have hmem := hmem.ext hx2
    rw [List.length_append, ptrL_length, List.length_take] at hrN
    refine WL.val (Y.assign rfl) (by decide) ?_
    refine WL.nil ?_
    refine hK16 _ _ ?_; try clear hK16 K16
    refine CW.seq fun K17 hK17 => ?_
    refine CW.region ?_
    refine WL.val (Y.move rfl) (by decide) ?_
    refine WL.val (Y.move rfl) (by decide) ?_
    refine WL.val (Y.slice_lo Tryd.underlying80 rfl rfl sz0_fuguenode rfl (by omega)) (by decide) ?_
    rw [if_neg (show ¬ cN = i by omega)]
    dsimp only [Option.map]
    refine WL.val (Y.move rfl) (by decide) ?_
    refine WL.st (St.copyRow (g := gN) (i := i) (news := ptrL [x]) UP sz0_fuguenode rfl (by rw [add_zero', Nat.mul_one]) rfl hvm (by rw [ptrL_length]; show 1 = _; omega) hRN (by rw [List.length_append, ptrL_length, ptrL_length, List.length_take]; show i + 1 ≤ _; omega) one_ptrL) (by decide) fun v45 w3 hR3 => ?_
    obtain ⟨rfl, hc3, hR3⟩ := hR3
    have hz3 := hc3.size
    have hE := hE.step hc3 (fun k h => by have h : k = gN := h; omega)
    have hmem := hmem.chg hc3 (fun h => by have h : g = gN := h; omega)
    refine WL.nil ?_
    refine hK17 _ _ ?_; try clear hK17 K17
    refine CW.seq fun K18 hK18 => ?_
    refine CW.head 8 (by kernel_rfl) (by kernel_rfl) fun w4 hx4 => ?_
    skip; have hz4 := hx4.size; have hE := hE.thenExt hx4
    refine HL.val (Y.move rfl) (by decide) ?_
    refine HL.val (Y.move rfl) (by decide) ?_
    refine HL.val (Y.move rfl) (by decide) ?_
    refine HL.val (Y.add rfl rfl ⟨by omega, by omega⟩) (by decide) ?_
    refine HL.val (Y.slice_lo (i := i + 1) Tryd.underlying80 rfl rfl sz0_fuguenode rfl (by omega)) (by decide) ?_
    rw [if_neg (show ¬ cN = i + 1 by omega)]
    dsimp only [Option.map]
    refine HL.val (Y.move rfl) (by decide) ?_
    refine HL.val (Y.move rfl) (by decide) ?_
    refine HL.val (Y.slice_lo Tryd.underlying80 rfl rfl sz0_fuguenode rfl (by omega)) (by decide) ?_
    rw [if_neg (show ¬ c = i by omega)]
    dsimp only [Option.map]
    refine HL.nil ?_
    refine WL.st (St.copyRow (g := gN) (i := i + 1) (news := ptrL (l.drop i)) UP sz0_fuguenode rfl (by rw [add_zero', Nat.mul_one]) rfl (by rw [Nat.mul_one, ← ptrL_drop]; exact (hmem.ext hx4).drop i) (by rw [ptrL_length, List.length_drop]; omega) (hR3.ext hx4) (by simp only [List.length_append, List.length_take, List.length_drop, ptrL_length, List.length_singleton]; omega) one_ptrL) (by decide) fun v54 w5 hR5 => ?_
    obtain ⟨rfl, hc5, hR5⟩ := hR5
    have hE := hE.step hc5 (fun k h => by have h : k = gN := h; omega)
    refine WL.nil ?_
    refine hK18 _ _ ?_; try clear hK18 K18
    refine CW.seq fun K19 hK19 => ?_
    refine CW.region ?_
    refine WL.val (Y.move rfl) (by decide) ?_
    refine WL.val (Y.assign rfl) (by decide) ?_
    refine WL.nil ?_
    refine hK19 _ _ ?_; try clear hK19 K19
    refine CW.ret ⟨_, rfl, ?_⟩
    change Row _ gN TP (List.take (i + 1) (List.take i (ptrL (l.take i) ++ rN) ++ ptrL [x] ++ List.drop (i + 1) (ptrL (l.take i) ++ rN)) ++ ptrL (l.drop i) ++ _) at hR5
    rw [row_grow (by rw [ptrL_length, List.length_take]; omega) rfl, ← ptrL_app, ← ptrL_app] at hR5
    rw [show l.take i ++ [x] ++ l.drop i = l.take i ++ x :: l.drop i by simp] at hR5
    exact ⟨hR5.own (by rw [ptrL_length]; simp only [List.length_append, List.length_take, List.length_cons, List.length_drop]; omega) (by omega) (by unfold maxLen; omega) (by simp only [List.length_append, List.length_take, List.length_cons, List.length_nil, List.length_drop, ptrL_length]; omega), hE.chg, .inr fun k hk => by simp [Value.ownBlock] at hk; omega⟩
  refine CW.skip ?_
  refine hK13 _ _ ?_; try clear hK13 K13
  refine CW.seq fun K20 hK20 => ?_
  refine CW.region ?_
  refine WL.val (Y.move rfl) (by decide) ?_
  refine WL.val (Y.move rfl) (by decide) ?_
  refine WL.val (Y.move rfl) (by decide) ?_
  refine WL.val (Y.add rfl rfl ⟨by omega, by omega⟩) (by decide) ?_
  refine WL.val (Y.slice_hi Tryd.underlying80 rfl rfl sz0_fuguenode rfl (by omega)) (by decide) ?_
  refine WL.val (Y.assign rfl) (by decide) ?_
  refine WL.nil ?_
  refine hK20 _ _ ?_; try clear hK20 K20
  refine CW.seq fun K21 hK21 => ?_
  refine CW.seq fun K22 hK22 => ?_
  refine CW.region ?_
  refine WL.val (Y.move rfl) (by decide) ?_
  refine WL.val (Y.move rfl) (by decide) ?_
  refine WL.val (Y.move rfl) (by decide) ?_
  refine WL.val (Y.move rfl) (by decide) ?_
  refine WL.val (Y.add rfl rfl ⟨by omega, by omega⟩) (by decide) ?_
  refine WL.val (Y.slice_lo (i := i + 1) Tryd.underlying80 rfl rfl sz0_fuguenode rfl (by omega)) (by decide) ?_
  rw [if_neg (show ¬ c = i + 1 by omega)]
  dsimp only [Option.map]
  refine WL.callX rfl (by rw [add_zero']; exact run_ov w gv g _ x _ _ hv hRw (by rw [List.length_append, ptrL_length]; omega) (fun e => hgv e.symm)) (by decide) ?_; have hx6 : Ext w w := Chg.refl; have hz6 := hx6.size; have hE := hE.thenExt hx6
  refine WL.val (Y.not rfl) (by decide) ?_
  refine WL.nil ?_
  refine hK22 _ _ ?_; try clear hK22 K22
  first | refine CW.condD rfl (fun ht23 => ?_) (fun ht23 => ?_) | refine CW.condND rfl (fun ht23 => ?_) (fun ht23 => ?_) | refine CW.condN rfl (fun ht23 => ?_) (fun ht23 => ?_) | refine CW.cond rfl (fun ht23 => ?_) (fun ht23 => ?_)
  · -- then
    refine CW.seq fun K24 hK24 => ?_
    refine CW.head 8 (by kernel_rfl) (by kernel_rfl) fun w7 hx7 => ?_
    skip; have hz7 := hx7.size; have hE := hE.thenExt hx7
    refine HL.val (Y.move rfl) (by decide) ?_
    refine HL.val (Y.move rfl) (by decide) ?_
    refine HL.val (Y.move rfl) (by decide) ?_
    refine HL.val (Y.add rfl rfl ⟨by omega, by omega⟩) (by decide) ?_
    refine HL.val (Y.slice_lo (i := i + 1) Tryd.underlying80 rfl rfl sz0_fuguenode rfl (by omega)) (by decide) ?_
    rw [if_neg (show ¬ c = i + 1 by omega)]
    dsimp only [Option.map]
    refine HL.val (Y.move rfl) (by decide) ?_
    refine HL.val (Y.move rfl) (by decide) ?_
    refine HL.val (Y.slice_lo Tryd.underlying80 rfl rfl sz0_fuguenode rfl (by omega)) (by decide) ?_
    rw [if_neg (show ¬ c = i by omega)]
    dsimp only [Option.map]
    refine HL.nil ?_
    refine WL.st (St.copyRow (g := g) (i := i + 1) (news := ptrL (l.drop i)) UP sz0_fuguenode rfl (by rw [add_zero', Nat.mul_one]) rfl (by rw [Nat.mul_one, ← ptrL_drop]; exact (hmem.ext hx7).drop i) (by rw [ptrL_length, List.length_drop]; omega) (hRw.ext hx7) (by simp only [List.length_append, List.length_drop, ptrL_length]; omega) one_ptrL) (by decide) fun v77 w8 hR8 => ?_
    obtain ⟨rfl, hc8, hR8⟩ := hR8
    have hC : Chg (fun k => k = g) w w8 := (hx7.chg).trans hc8 (fun k _ h => h)
    have hvm := hvm.chg hC (fun h => hgv h.symm)
    refine WL.nil ?_
    refine hK24 _ _ ?_; try clear hK24 K24
    refine CW.seq fun K25 hK25 => ?_
    refine CW.region ?_
    refine WL.val (Y.move rfl) (by decide) ?_
    refine WL.val (Y.move rfl) (by decide) ?_
    refine WL.val (Y.slice_lo Tryd.underlying80 rfl rfl sz0_fuguenode rfl (by omega)) (by decide) ?_
    rw [if_neg (show ¬ c = i by omega)]
    dsimp only [Option.map]
    refine WL.val (Y.move rfl) (by decide) ?_
    refine WL.st (St.copyRow (g := g) (i := i) (news := ptrL [x]) UP sz0_fuguenode rfl (by rw [add_zero', Nat.mul_one]) rfl hvm (by rw [ptrL_length]; show 1 = _; omega) hR8 (by simp only [List.length_append, List.length_take, List.length_drop, ptrL_length, List.length_singleton]; omega) one_ptrL) (by decide) fun v82 w9 hR9 => ?_
    obtain ⟨rfl, hc9, hR9⟩ := hR9
    have hC : Chg (fun k => k = g) w w9 := hC.trans hc9 (fun k _ h => h)
    refine WL.nil ?_
    refine hK25 _ _ ?_; try clear hK25 K25
    refine CW.seq fun K26 hK26 => ?_
    refine CW.region ?_
    refine WL.val (Y.move rfl) (by decide) ?_
    refine WL.val (Y.assign rfl) (by decide) ?_
    refine WL.nil ?_
    refine hK26 _ _ ?_; try clear hK26 K26
    refine CW.ret ⟨_, rfl, ?_⟩
    have hsp : ptrL l = ptrL (l.take i) ++ ptrL (l.drop i) := by rw [← ptrL_app, List.take_append_drop]
    have hdl : (ptrL (l.drop i)).length = n - i := by rw [ptrL_length, List.length_drop]; omega
    rw [hsp, hdl] at hR9
    change Row _ g TP (List.take i (List.take (i + 1) (ptrL (l.take i) ++ ptrL (l.drop i) ++ rest) ++ ptrL (l.drop i) ++ List.drop (i + 1 + (n - i)) (ptrL (l.take i) ++ ptrL (l.drop i) ++ rest)) ++ ptrL [x] ++ List.drop (i + 1) (List.take (i + 1) (ptrL (l.take i) ++ ptrL (l.drop i) ++ rest) ++ ptrL (l.drop i) ++ List.drop (i + 1 + (n - i)) (ptrL (l.take i) ++ ptrL (l.drop i) ++ rest))) at hR9
    rw [row_shift (by rw [ptrL_length, List.length_take]; omega) hdl rfl (by omega), ← ptrL_app, ← ptrL_app] at hR9
    rw [show l.take i ++ [x] ++ l.drop i = l.take i ++ x :: l.drop i by simp] at hR9
    exact ⟨hR9.own (by rw [ptrL_length]; simp only [List.length_append, List.length_take, List.length_cons, List.length_drop]; omega) (by omega) (by unfold maxLen; omega) (by simp only [List.length_append, List.length_take, List.length_cons, List.length_nil, List.length_drop, ptrL_length]; omega), hC.mono fun k _ h => by rw [h]; rfl, .inl rfl⟩
  refine CW.skip ?_
  refine hK21 _ _ ?_; try clear hK21 K21
  refine CW.seq fun K27 hK27 => ?_
  exact absurd (show false = true by assumption) (by decide)
end Go.Proofs.YtjbeooimhoilmaaDoor
