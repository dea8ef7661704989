/- Whom a text comes of: edit.Blame, the document's Blame, two lists of runs, walked. No condition but bounds. -/
import Derived.Test.YtmndofgagngcgaaJj
set_option linter.unusedSimpArgs false
set_option linter.unusedVariables false
deriving instance DecidableEq for Go.Fu.RuD
namespace Go.Fw
open Go.RowKit Go.Fu
def runC (r : RuD) : List Value := digC r.c ++ [.int .i64 (r.n : Int)]
theorem runC_length (r : RuD) : (runC r).length = 33 := by rw [runC, List.length_append, digC_length]; rfl
theorem one_runC {r : RuD} : ∀ u ∈ runC r, u.oneCell' = true := by
  intro u hu
  rw [runC, List.mem_append] at hu
  rcases hu with hu | hu
  · exact one_digC u hu
  · simp at hu; subst hu; rfl
abbrev runL (l : List RuD) : List Value := (l.map runC).flatten
theorem runL_length (l : List RuD) : (runL l).length = l.length * 33 := flat_length runC_length l
section
variable {w : World} {a : Addr} {x : RuD} (h : Mem w a (runC x))
include h
theorem Mem.apiRun0 : Mem w (a.add 0) (digC x.c) := h.sub 0 fun j v hj => by
  have hlt : j < (digC x.c).length := (List.getElem?_eq_some_iff.1 hj).1
  rw [Nat.zero_add, runC, List.getElem?_append_left hlt]; exact hj
theorem Mem.apiRun1 : w.cell? (a.add 32) = some (.int .i64 (x.n : Int)) := h.cell 32 (by rw [runC, List.getElem?_append_right (by rw [digC_length]; omega), digC_length]; rfl)
end
theorem runL_n {l : List RuD} {i : Nat} {x : RuD} (h : l[i]? = some x) (n : Nat) : runL l = (runL (l.take i) ++ digC x.c) ++ [.int .i64 (x.n : Int)] ++ runL (l.drop (i + 1)) ∧ runL (l.set i ⟨x.c, n⟩) = (runL (l.take i) ++ digC x.c) ++ [.int .i64 (n : Int)] ++ runL (l.drop (i + 1)) := by
  obtain ⟨h1, h2⟩ := flat_split (enc := runC) (⟨x.c, n⟩ : RuD) h
  exact ⟨by rw [runL, h1]; simp only [runC, List.append_assoc], by rw [runL, h2]; simp only [runC, List.append_assoc]⟩
/-- The list with a run open for a commit. -/
noncomputable def openR (l : List RuD) (d : Dig) : List RuD := if l.getLast?.map RuD.c = some d then l else l ++ [⟨d, 0⟩]
def lastR (l : List RuD) : Dig := ((l[l.length - 1]?).map RuD.c).getD Dig.zero
theorem lastR_iff {l : List RuD} (h : 0 < l.length) (d : Dig) : l.getLast?.map RuD.c = some d ↔ lastR l = d := by
  obtain ⟨x, hx⟩ : ∃ x, l[l.length - 1]? = some x := ⟨_, List.getElem?_eq_getElem (by omega)⟩
  rw [List.getLast?_eq_getElem?, lastR, hx]; simp
theorem openR_new {l : List RuD} {d : Dig} (h : (l.length : Int) = 0 ∨ ¬ lastR l = d) : openR l d = l ++ [⟨d, 0⟩] := by
  rw [openR, if_neg]
  intro h1
  rcases Nat.eq_zero_or_pos l.length with h0 | h0
  · obtain rfl := List.eq_nil_of_length_eq_zero h0; simp at h1
  · rcases h with h | h
    · omega
    · exact h ((lastR_iff h0 d).1 h1)
theorem openR_old {l : List RuD} {d : Dig} (h : ¬ ((l.length : Int) = 0 ∨ ¬ lastR l = d)) : openR l d = l := by
  rw [openR, if_pos]
  have h0 : ¬ (l.length : Int) = 0 := fun e => h (.inl e)
  have h1 : lastR l = d := Decidable.not_not.1 fun e => h (.inr e)
  exact (lastR_iff (by omega) d).2 h1
theorem openR_last (l : List RuD) (d : Dig) : ∃ x, (openR l d)[(openR l d).length - 1]? = some x ∧ x.c = d := by
  unfold openR
  split
  · rename_i h
    rw [List.getLast?_eq_getElem?] at h
    obtain ⟨e, he, hk⟩ := Option.map_eq_some_iff.1 h
    exact ⟨e, he, hk⟩
  · exact ⟨⟨d, 0⟩, by simp, rfl⟩
theorem openR_length (l : List RuD) (d : Dig) : (openR l d).length ≤ l.length + 1 := by
  unfold openR; split <;> simp
theorem openR_n {l : List RuD} {d : Dig} {N : Nat} (h : ∀ x ∈ l, x.n ≤ N) : ∀ x ∈ openR l d, x.n ≤ N := fun x hx => by
  unfold openR at hx
  split at hx
  · exact h x hx
  · rcases List.mem_append.1 hx with hx | hx
    · exact h x hx
    · simp at hx; subst hx; exact Nat.zero_le _
theorem modify_lst {α : Type} {m : List α} {x : α} {f : α → α} (h : m[m.length - 1]? = some x) : m.modify (m.length - 1) f = m.set (m.length - 1) (f x) := by
  apply List.ext_getElem?
  intro i
  rw [List.getElem?_modify, List.getElem?_set]
  have hlt := (List.getElem?_eq_some_iff.1 h).1
  by_cases e : m.length - 1 = i
  · subst e; rw [if_pos rfl, if_pos hlt, h]; simp
  · rw [if_neg e]
    cases m[i]? with
    | none => rfl
    | some y => show some (if m.length - 1 = i then _ else y) = _; rw [if_neg e]
theorem addR_set {l : List RuD} {d : Dig} {x : RuD} (h : (openR l d)[(openR l d).length - 1]? = some x) : addR l d = (openR l d).set ((openR l d).length - 1) ⟨x.c, x.n + 1⟩ := by
  unfold openR at h ⊢
  unfold addR
  split
  · rename_i hc
    rw [if_pos hc] at h
    exact modify_lst h
  · rename_i hc
    rw [if_neg hc] at h
    simp at h; subst h
    simp
theorem addR_old {l : List RuD} {d : Dig} {x : RuD} (h0 : 0 < l.length) (hl : lastR l = d) (h : l[l.length - 1]? = some x) : addR l d = l.set (l.length - 1) ⟨x.c, x.n + 1⟩ := by
  rw [addR, if_pos ((lastR_iff h0 d).2 hl)]; exact modify_lst h
theorem addR_new {l : List RuD} {d : Dig} (h : ¬ (0 < l.length ∧ lastR l = d)) : addR l d = l ++ [⟨d, 1⟩] := by
  rw [addR, if_neg]
  intro h1
  rcases Nat.eq_zero_or_pos l.length with h0 | h0
  · obtain rfl := List.eq_nil_of_length_eq_zero h0; simp at h1
  · exact h ⟨h0, (lastR_iff h0 d).1 h1⟩
theorem spread_n : ∀ {l : List RuD} {x : RuD}, x ∈ l → x.n ≤ (spread l).length
  | r :: l, x, hx => by
    rw [spread, List.flatMap_cons, List.length_append, List.length_replicate]
    rcases List.mem_cons.1 hx with rfl | hx
    · omega
    · have := spread_n hx; rw [spread] at this; omega
theorem spread_len : ∀ {l : List RuD}, (∀ r ∈ l, 1 ≤ r.n) → l.length ≤ (spread l).length
  | [], _ => Nat.zero_le _
  | r :: l, h => by
    have h1 := h r (by simp)
    have h2 := spread_len (l := l) fun x hx => h x (by simp [hx])
    rw [spread] at h2
    rw [spread, List.flatMap_cons, List.length_append, List.length_replicate, List.length_cons]; omega
theorem runs_nil : RunsOk [] [] := ⟨rfl, fun r h => (nomatch h), fun i r s h => by simp at h⟩
theorem runs_bd (ds : List Dig) : (ds.foldl addR []).length ≤ ds.length ∧ ∀ x ∈ ds.foldl addR [], x.n ≤ ds.length := by
  have h := runs_fold runs_nil ds
  rw [List.nil_append] at h
  have h1 := h.all
  refine ⟨?_, fun x hx => ?_⟩
  · have := spread_len h.pos; rw [h1] at this; exact this
  · have := spread_n hx; rw [h1] at this; exact this
end Go.Fw
namespace Go.Proofs.Ytmndofgagngcgaa
open Go.RowKit Go.Fw Go.Fu Go.Pl
abbrev TRu : TypeId := 65
abbrev TSR : TypeId := 38
abbrev URu := Try.underlying38
theorem sz0_apiRun : (Try.prog.info? TRu).map (·.size) = some 33 := by kernel_rfl
theorem sz_apiRun (x : RuD) : (Try.prog.info? TRu).map (·.size) = some (runC x).length := by rw [runC_length]; exact sz0_apiRun
theorem fo_apiRun0 : FieldOff Try.prog TRu 0 0 := ⟨_, _, 32, Try.underlying65, rfl, sz_dig, by decide, rfl⟩
theorem fo_apiRun1 : FieldOff Try.prog TRu 1 32 := ⟨_, _, 1, Try.underlying65, rfl, sz_int, by decide, rfl⟩
theorem ai_run : AppInfo Try.prog TRu 33 40 := by
  have h : (Try.prog.info? TRu).map (fun i => (i.size, i.bytes, i.zero)) = some (33, 40, some (.agg (runC ⟨Dig.zero, 0⟩).toArray)) := by kernel_rfl
  obtain ⟨i, hi, h⟩ := Option.map_eq_some_iff.1 h
  injection h with h1 h2
  injection h2 with h2 h3
  exact ⟨i, _, hi, h3, h1, by show (runC ⟨Dig.zero, 0⟩).toArray.size = 33; simp [runC_length], h2, by decide, by decide⟩
theorem bs1_run (r : RuD) (w : World) : (Instr.buildSlice TSR 1 [(0, .agg (runC r).toArray)].toArray).run Try.prog w = .ok (.slice (some ⟨w.heap.size, 0, none⟩) 1 1) (w.alloc (.cells (runC r).toArray TRu)) := by
  obtain ⟨i, z, hi, hz, hk, _⟩ := ai_run
  exact run_bs1 URu hi hz (by omega) (by omega) rfl (by rw [runC_length, hk]) w
theorem built_run (parts : List (Nat × Value)) : Try.prog.built TRu parts = Instr.fill (fun i => #[(0, 32), (32, 1)][i]?) (runC ⟨Dig.zero, 0⟩).toArray parts := by kernel_rfl
theorem build_run (d : Dig) (w : World) : (Instr.build TRu [(0, digV d)].toArray).run Try.prog w = .ok (.agg (runC ⟨d, 0⟩).toArray) w := run_build w _ _ _ (by
  show Try.prog.built _ [(0, digV d)] = _
  rw [built_run]
  have e0 : runC ⟨Dig.zero, 0⟩ = [] ++ digC Dig.zero ++ [Value.int .i64 ((0 : Nat) : Int)] := rfl
  rw [e0, fill_step [] (digC Dig.zero) [Value.int .i64 ((0 : Nat) : Int)] (digC d) (by rw [digC_length]; rfl) rfl (by rw [digC_length, digC_length]) rfl, Instr.fill]
  rfl)
theorem build_run1 (d : Dig) (w : World) : (Instr.build TRu [(0, digV d), (1, Value.int .i64 1)].toArray).run Try.prog w = .ok (.agg (runC ⟨d, 1⟩).toArray) w := run_build w _ _ _ (by
  show Try.prog.built _ [(0, digV d), (1, Value.int .i64 1)] = _
  rw [built_run]
  have e0 : runC ⟨Dig.zero, 0⟩ = [] ++ digC Dig.zero ++ [Value.int .i64 ((0 : Nat) : Int)] := rfl
  rw [e0, fill_step [] (digC Dig.zero) [Value.int .i64 ((0 : Nat) : Int)] (digC d) (by rw [digC_length]; rfl) rfl (by rw [digC_length, digC_length]) rfl]
  have e1 : [] ++ digC d ++ [Value.int .i64 ((0 : Nat) : Int)] = digC d ++ [Value.int .i64 ((0 : Nat) : Int)] ++ [] := by simp
  rw [e1, fill_step (digC d) [Value.int .i64 ((0 : Nat) : Int)] [] [Value.int .i64 1] rfl rfl rfl (by rw [digC_length]), Instr.fill]
  simp [runC])
theorem guard_run : Try.prog.eqGuardType Try.prog.depth TRu = false := by kernel_rfl
theorem held_run : Try.prog.stoodInHeld TRu = false := by kernel_rfl
theorem fields_run : ∃ f0 f1 : Field, (Try.prog.fieldsOf TRu).toList = [f0, f1] ∧ f0.name ≠ "_" ∧ f1.name ≠ "_" ∧ f0.type = 50 ∧ f1.type = 3 ∧ f0.offset = 0 ∧ f1.offset = 32 := by
  refine ⟨_, _, (by simp only [Program.fieldsOf, Try.underlying65]; rfl), ?_, ?_, rfl, rfl, rfl, rfl⟩ <;> decide
theorem ht_run : Try.prog.underlying TRu = some (.struct (Try.prog.fieldsOf TRu)) := by simp only [Program.fieldsOf, Try.underlying65]
theorem run_c (r : RuD) : (runC r).toArray.extract 0 (0 + 32) = (digC r.c).toArray := by
  have := digC_length r.c
  simp [runC, List.take_append, this]
theorem run_n (r : RuD) : (runC r).toArray[32]? = some (.int .i64 (r.n : Int)) := by
  have := digC_length r.c
  simp [runC, List.getElem?_append_right, this]
theorem eqIn_run (d : Nat) (a b : RuD) (w : World) : (Op.equalIn (d + 3) TRu (.agg (runC a).toArray) (.agg (runC b).toArray)).run Try.prog w = .ok (decide (a = b)) w := by
  rw [run_equalIn_struct (P := Try.prog) w (d + 2) _ _ _ ht_run held_run]
  obtain ⟨f0, f1, hf, n0, n1, t0, t1, o0, o1⟩ := fields_run
  rw [hf]
  simp only [Op.eqFields, Sem.run_ite, Sem.run_pure, n0, n1, t0, t1, o0, o1, ne_eq, not_false_eq_true, if_true, Sem.run_bind, part_one Try.underlying3 rfl (run_n _), part_dig, run_c, Result.andThen_ok, eqIn_dig,
    run_equalIn_int w _ _ _ _ _ _ Try.underlying3]
  obtain ⟨ac, an⟩ := a
  obtain ⟨bc', bn⟩ := b
  have hn : ((an : Int) == (bn : Int)) = decide (an = bn) := by rw [Bool.eq_iff_iff]; simp [Int.natCast_inj]
  by_cases h1 : ac = bc' <;> by_cases h2 : an = bn <;> simp [h1, h2, hn]
section
variable {n : NN} {fr : Fr} {ty t' : TypeId} {x y : Operand} {w : World}
theorem Y.neq_apiRun {a b : RuD} (hx : ev fr x = some (.agg (runC a).toArray)) (hy : ev fr y = some (.agg (runC b).toArray)) : Yw Try.prog n fr (.binOp .neq TRu x y t') ty w (.bool (!decide (a = b))) w :=
  Y.bin hx hy (run_eqGuard_agg w _ _ _ _ _ _ guard_run) (by rw [run_neq_struct, eqIn_run 9997]; rfl)
end
theorem run_cell {w : World} {l : List RuD} {A : Option Addr} {m c : Nat} (h : Own w TRu 33 (.slice A m c) (runL l)) : l.length = m ∧ (0 < m → ∃ a x, A = some a ∧ l[m - 1]? = some x ∧ x.c = lastR l ∧ Mem w (a.add ((m - 1) * 33)) (runC x)) := by
  have h1 : l.length = m := by
    have h2 := (h.mem A m c rfl).2.2.1
    rw [runL_length] at h2; omega
  refine ⟨h1, fun h0 => ?_⟩
  obtain ⟨x, hx⟩ : ∃ x, l[m - 1]? = some x := ⟨_, List.getElem?_eq_getElem (by omega)⟩
  obtain ⟨a, ha, hm⟩ := (h.sl runC_length (by decide)).get hx
  exact ⟨a, x, ha, hx, by rw [lastR, h1, hx]; rfl, hm⟩
theorem run_head {w : World} {l : List RuD} {a : Addr} {m c : Nat} (h : Own w TRu 33 (.slice (some a) m c) (runL l)) (h0 : 0 < m) : ∃ g, a = ⟨g, 0, none⟩ := by
  obtain ⟨g, hg, _⟩ := h.head (by
    intro e
    have h2 := (run_cell h).1
    have h3 := runL_length l
    rw [e] at h3; simp at h3; omega)
  injection hg with hg
  exact ⟨g, hg⟩

set_option maxRecDepth 100000 in
set_option maxHeartbeats 2000000 in
theorem fblame_any (g rb ra : Nat) (ad : List Dig) (ns : List Nn) (w : World) (hT : FtAt w g rb ra ad ns) (hG : Fu.Good (Fw.els ns)) (hn : ns.length ≤ 400001) : Calls Try.prog 18 #[.pointer (some ⟨g, 0, none⟩)] w (Ret fun v w' => Own w' TRu 33 v (runL (blameE (Fw.els ns))) ∧ (∀ q, v.ownBlock = some q → w.heap.size ≤ q) ∧ Ext w w') := by
  have hlv : (seenE (Fw.els ns)).length ≤ 400001 := by
    have h1 := List.countP_le_length (p := fun x : El => !x.gone) (l := Fw.els ns)
    rw [hG.seen_length]; rw [List.length_map] at h1; exact Nat.le_trans h1 hn
  obtain ⟨ds, hds⟩ : ∃ ds : List Dig, ds = (seenE (Fw.els ns)).map fun q => (nm (Fw.els ns) q).c := ⟨_, rfl⟩
  have hdl : ds.length = (seenE (Fw.els ns)).length := by rw [hds, List.length_map]
  have hTl := fun q (hq : Fp g rb ra ns q) => hT.lt hq
  refine calls_of_CN 41 [2] [(0, .pointer (some ⟨g, 0, none⟩))] Try.func18 rfl rfl rfl (by simp) args1 ?_
  have hE : Ext w w := Chg.refl
  refine CN.seq fun K1 hK1 => ?_
  refine CN.of_CW ?_
  refine CW.region ?_
  refine WL.val (Y.assign rfl) (by first | decide | exact Nat.le_of_ble_eq_true rfl) ?_
  refine WL.nil ?_
  refine hK1 _ _ _ ?_; try clear hK1 K1
  refine CN.seq fun K2 hK2 => ?_
  refine CN.of_CW ?_
  refine CW.region ?_
  refine WL.alloc1 (z := .slice none 0 0) (by kernel_rfl) rfl (by first | decide | exact Nat.le_of_ble_eq_true rfl) fun g3 w1 hx1 hg3 hB3 => ?_
  have hlt3 := hB3.lt; have hz1 := hx1.size
  have hM3 := hB3.mem; have hz1 := hx1.size; have hE := hE.thenExt hx1
  refine WL.nil ?_
  refine hK2 _ _ _ ?_; try clear hK2 K2
  refine CN.seq fun K3 hK3 => ?_
  refine CN.seq fun K4 hK4 => ?_
  refine CN.of_CW ?_
  refine CW.region ?_
  refine WL.val (Y.move rfl) (by first | decide | exact Nat.le_of_ble_eq_true rfl) ?_
  refine WL.call Try.func32 rfl rfl rfl (fall_any ⟨g, 0, none⟩ _) (by simp) ?_; rintro v6 w2 hR2
  obtain ⟨b6, rfl, hgb, hBb, hx2⟩ := hR2
  have hz2 := hx2.size
  have hE := hE.thenExt hx2
  have hB3 := hB3.ext hx2
  have hT2 := hT.ext hE
  have hE2 := hE
  refine WL.nil ?_
  refine hK4 _ _ _ ?_; try clear hK4 K4
  refine CN.block ?_
  refine CN.rangeN (rfl) Try.func51 rfl rfl (fall1_any g rb ra ad ns b6 _ hT2 hG hn hBb) (fun _ => rfl) (by first | decide | exact Nat.le_of_ble_eq_true rfl) (fun _ h => h.elim) (fun w1 s V hz hs i hk => by have := hs.1; have := hk.1; omega) (fun s i V => w2.heap.size + 2 ≤ s.lo ∧ s.lo ≤ s.hi ∧ s.hi ≤ V.heap.size ∧ ∃ u, Blk V g3 TSR [u] ∧ Own V TRu 33 u (runL ((ds.take i).foldl addR [])) ∧ (∀ q, u.ownBlock = some q → s.hi ≤ q) ∧ Chg (fun k => k = g3) w2 V) (fun _ _ _ => False) ?_ ?_ ?_ ?_ ?_ ?_ ?_
  · intro w1_ s_ V hw_ hz_ hc_ hs_
    exact ⟨by have := hs_.1; omega, hs_.2.1, hs_.2.2, .slice none 0 0, (hB3.ext hw_).ext hc_, Own.nil, (fun q h => by simp [Value.ownBlock] at h), Ext.chg (hw_.thenExt hc_)⟩
  · intro s_ i_ V V_ hi_ hc_
    obtain ⟨hlo, hlh, hhi, u, hB3, hO, hf, hC⟩ := hi_
    have hzc := hc_.size
    exact ⟨hlo, hlh, by omega, u, hB3.chg hc_ (fun h => by rcases h with h | h; exact h; omega), hO.chg hc_ (fun q hq h => by rcases h with h | h; exact h; have := hf q hq; omega), hf, hC.trans hc_ (fun k hk h => by rcases h with h | h; exact h.elim; exact False.elim (by omega))⟩
  · intro s_ e_ V V_ hi_ hc_
    exact hi_.elim
  · intro s_ i_ V hi_
    obtain ⟨_, _, _, _, _, _, _, hC⟩ := hi_
    exact (hT2.chg hC (fun q hq h => by have := hTl q hq; have h : q = g3 := h; omega)).allN hG
  · intro s_ i_ x_ w3 hi_ hx_ hat_ hz_
    obtain ⟨hlo, hlh, hhi, u, hB3, hO, hf, hC⟩ := hi_
    obtain ⟨q, hq, rfl⟩ : ∃ q, (seenE (Fw.els ns))[i_]? = some q ∧ (nm (Fw.els ns) q, byteAt (Fw.els ns) q) = x_ := by
      rw [allXs8, List.getElem?_map] at hx_
      exact Option.map_eq_some_iff.1 hx_
    have hil := (List.getElem?_eq_some_iff.1 hq).1
    have hdq : ds[i_]? = some (nm (Fw.els ns) q).c := by rw [hds, List.getElem?_map, hq]; rfl
    obtain ⟨L, hL⟩ : ∃ L, L = (ds.take i_).foldl addR [] := ⟨_, rfl⟩
    have hnext : (ds.take (i_ + 1)).foldl addR [] = addR L (nm (Fw.els ns) q).c := by rw [Go.Pl.take_succ hdq, List.foldl_append, ← hL]; rfl
    obtain ⟨hLl, hLn⟩ := runs_bd (ds.take i_)
    rw [← hL] at hO hLl hLn
    rw [List.length_take] at hLl hLn
    have hLn : ∀ x ∈ L, x.n ≤ i_ := fun x hx => by have := hLn x hx; omega
    have hult := hO.lt
    obtain ⟨uA, um, uc, rfl⟩ := hO.lens
    have hE : Ext w3 w3 := Chg.refl
    refine CW.region ?_
    refine as_apiRef rfl (by simp) (by first | decide | exact Nat.le_of_ble_eq_true rfl) fun g4 w4 hx4 hg4 hB4 => ?_
    have hlt4 := hB4.lt; have hz4 := hx4.size
    have hM4 := hB4.mem; have hz4 := hx4.size; have hE := hE.thenExt hx4; have hB3 := hB3.ext hx4
    refine WL.nil ?_
    have hE_ : Ext w3 w4 := hx4
    refine ⟨hE_, fun w5 hc_ => ?_⟩
    have hz5 := hc_.size
    have hB3 := hB3.chg hc_ (fun h => by omega)
    have hB4 := hB4.chg hc_ (fun h => by omega)
    have hO := (hO.ext hx4).chg hc_ (fun k hk h => by have := hf k hk; omega)
    have hC9 : Chg (fun k => k = g3) w2 w5 := (hC.thenExt hx4).trans hc_ (fun k hk h => False.elim (by omega))
    have hE : Ext w5 w5 := Chg.refl
    obtain ⟨hm, hcell⟩ := run_cell hO
    refine CW.block ?_
    refine CW.seq_to (X := Value) (fun _ => [(3, .pointer (some ⟨g3, 0, none⟩)), (4, .pointer (some ⟨g4, 0, none⟩))]) (fun u1 w0 => Blk w0 g3 TSR [u1] ∧ Own w0 TRu 33 u1 (runL (openR L (nm (Fw.els ns) q).c)) ∧ (∀ k, u1.ownBlock = some k → s_.hi ≤ k) ∧ Chg (fun k => k = g3 ∨ s_.hi ≤ k) w5 w0) ?_ ?_
    · skip
      refine CW.seq_testE 23 ((um : Int) = 0 ∨ ¬ lastR L = (nm (Fw.els ns) q).c) ?_ ?_
      · refine CW.quiet (fun wq => Ext w5 wq) (by kernel_rfl) (by kernel_rfl) Chg.drew ?_
        refine QL.val (fun wq hq => Y.load1 Try.underlying38 rfl (hB3.ext hq).mem.cell0 rfl) (by first | decide | exact Nat.le_of_ble_eq_true rfl) ?_
        refine QL.val (fun wq hq => Y.len_slice Try.underlying38 rfl) (by first | decide | exact Nat.le_of_ble_eq_true rfl) ?_
        refine QL.val (fun wq hq => Y.eql rfl rfl) (by first | decide | exact Nat.le_of_ble_eq_true rfl) ?_
        refine QL.val (fun wq hq => Y.move rfl) (by first | decide | exact Nat.le_of_ble_eq_true rfl) ?_
        first | refine QL.casesD (d := 12) rfl (fun hg12 => ?_) (fun hg12 => ?_) | refine QL.casesND (d := 12) rfl (fun hg12 => ?_) (fun hg12 => ?_) | refine QL.cases (d := 12) rfl (fun hg12 => ?_) (fun hg12 => ?_)
        · -- t12 = T
          refine QL.goff rfl rfl (by first | decide | exact Nat.le_of_ble_eq_true rfl) ?_
          refine QL.goff rfl rfl (by first | decide | exact Nat.le_of_ble_eq_true rfl) ?_
          refine QL.goff rfl rfl (by first | decide | exact Nat.le_of_ble_eq_true rfl) ?_
          refine QL.goff rfl rfl (by first | decide | exact Nat.le_of_ble_eq_true rfl) ?_
          refine QL.goff rfl rfl (by first | decide | exact Nat.le_of_ble_eq_true rfl) ?_
          refine QL.goff rfl rfl (by first | decide | exact Nat.le_of_ble_eq_true rfl) ?_
          refine QL.goff rfl rfl (by first | decide | exact Nat.le_of_ble_eq_true rfl) ?_
          refine QL.goff rfl rfl (by first | decide | exact Nat.le_of_ble_eq_true rfl) ?_
          refine QL.goff rfl rfl (by first | decide | exact Nat.le_of_ble_eq_true rfl) ?_
          refine QL.goff rfl rfl (by first | decide | exact Nat.le_of_ble_eq_true rfl) ?_
          refine QL.val (fun wq hq => Y.pick rfl rfl) (by first | decide | exact Nat.le_of_ble_eq_true rfl) ?_
          refine QL.nil fun wq hq => ⟨⟨_, rfl, ?_⟩, hq, (by repeat (first | exact Fr.le.refl | refine Fr.le.push rfl ?_))⟩
          first | (simp only [*, Int.natCast_inj, Bool.not_eq_true', decide_eq_false_iff_not, decide_eq_true_eq, not_true_eq_false, not_false_eq_true, true_and, false_and, and_true, and_false, false_or, or_false, true_or, or_true, iff_true, true_iff, iff_false, false_iff]; done) | (simp_all; done) | (refine congrArg Value.bool (Bool.eq_iff_iff.2 ?_); simp_all; done) | (simp_all; omega)
        · -- t12 = F
          obtain ⟨a, x, hax, hx, hxk, hma⟩ := hcell (by omega)
          subst hax
          rw [← hxk]
          refine QL.gval rfl rfl (fun wq hq => Y.load1 Try.underlying38 rfl (hB3.ext hq).mem.cell0 rfl) (by first | decide | exact Nat.le_of_ble_eq_true rfl) ?_
          refine QL.gval rfl rfl (fun wq hq => Y.load1 Try.underlying38 rfl (hB3.ext hq).mem.cell0 rfl) (by first | decide | exact Nat.le_of_ble_eq_true rfl) ?_
          refine QL.gval rfl rfl (fun wq hq => Y.len_slice Try.underlying38 rfl) (by first | decide | exact Nat.le_of_ble_eq_true rfl) ?_
          refine QL.gval rfl rfl (fun wq hq => Y.subC (c := um - 1) rfl rfl (by omega) (by omega)) (by first | decide | exact Nat.le_of_ble_eq_true rfl) ?_
          refine QL.gval rfl rfl (fun wq hq => Y.indexAddrN Try.underlying38 rfl rfl sz0_apiRun (by omega)) (by first | decide | exact Nat.le_of_ble_eq_true rfl) ?_
          refine QL.gval rfl rfl (fun wq hq => Y.fieldAddr fo_apiRun0 rfl) (by first | decide | exact Nat.le_of_ble_eq_true rfl) ?_
          refine QL.gval rfl rfl (fun wq hq => Y.load Try.underlying50 rfl (hma.ext hq).apiRun0 (sz_apiDigest _) rfl) (by first | decide | exact Nat.le_of_ble_eq_true rfl) ?_
          refine QL.gval rfl rfl (fun wq hq => Y.fieldAddr fo_apiRef1 rfl) (by first | decide | exact Nat.le_of_ble_eq_true rfl) ?_
          refine QL.gval rfl rfl (fun wq hq => Y.load Try.underlying50 rfl (hB4.ext hq).mem.ref1 (sz_apiDigest _) rfl) (by first | decide | exact Nat.le_of_ble_eq_true rfl) ?_
          refine QL.gval rfl rfl (fun wq hq => Y.neq_apiDigest rfl rfl) (by first | decide | exact Nat.le_of_ble_eq_true rfl) ?_
          refine QL.val (fun wq hq => Y.pick rfl rfl) (by first | decide | exact Nat.le_of_ble_eq_true rfl) ?_
          refine QL.nil fun wq hq => ⟨⟨_, rfl, ?_⟩, hq, (by repeat (first | exact Fr.le.refl | refine Fr.le.push rfl ?_))⟩
          first | (simp only [*, Int.natCast_inj, Bool.not_eq_true', decide_eq_false_iff_not, decide_eq_true_eq, not_true_eq_false, not_false_eq_true, true_and, false_and, and_true, and_false, false_or, or_false, true_or, or_true, iff_true, true_iff, iff_false, false_iff]; done) | (simp_all; done) | (refine congrArg Value.bool (Bool.eq_iff_iff.2 ?_); simp_all; done) | (simp_all; omega)
      intro w6 hx6; have hz6 := hx6.size; have hE := hE.thenExt hx6; have hB3 := hB3.ext hx6; have hB4 := hB4.ext hx6
      first | refine CW.condD rfl (fun ht6 => ?_) (fun ht6 => ?_) | refine CW.condND rfl (fun ht6 => ?_) (fun ht6 => ?_) | refine CW.condN rfl (fun ht6 => ?_) (fun ht6 => ?_) | refine CW.cond rfl (fun ht6 => ?_) (fun ht6 => ?_)
      · -- then
        refine CW.region ?_
        refine WL.val (Y.load1 Try.underlying38 rfl hB3.mem.cell0 rfl) (by first | decide | exact Nat.le_of_ble_eq_true rfl) ?_
        refine WL.val (Y.fieldAddr fo_apiRef1 rfl) (by first | decide | exact Nat.le_of_ble_eq_true rfl) ?_
        refine WL.val (Y.load Try.underlying50 rfl hB4.mem.ref1 (sz_apiDigest _) rfl) (by first | decide | exact Nat.le_of_ble_eq_true rfl) ?_
        refine WL.val (Y.build rfl (build_run _ _)) (by first | decide | exact Nat.le_of_ble_eq_true rfl) ?_
        refine WL.st (St.buildSlice rfl (bs1_run _)) (by first | decide | exact Nat.le_of_ble_eq_true rfl) fun v28 w7 hR7 => ?_
        obtain ⟨g28, rfl, hg28, hB28, hx7⟩ := hR7
        have hz7 := hx7.size
        have hB3 := hB3.ext hx7
        have hB4 := hB4.ext hx7
        refine WL.st (St.append (m := 1) (news := runC ⟨(nm (Fw.els ns) q).c, 0⟩) URu URu ai_run rfl rfl ((hO.ext hx6).ext hx7) (Fw.Src.one hB28 (runC_length _)) one_runC (by rw [runL_length]; omega)) (by first | decide | exact Nat.le_of_ble_eq_true rfl) fun v29 w8 hR8 => ?_
        obtain ⟨hO8, hc8, hf8⟩ := hR8
        have hz8 := hc8.size
        obtain ⟨vA, vm, vc, rfl⟩ := hO8.lens
        have hf8 : ∀ k, (Value.slice vA vm vc).ownBlock = some k → s_.hi ≤ k := fun k hk => by
          rcases hf8 with h | h
          · rw [h] at hk; exact hf k hk
          · have := h k hk; omega
        have hO8 : Own w8 TRu 33 (.slice vA vm vc) (runL (openR L (nm (Fw.els ns) q).c)) := by rw [openR_new (by rw [hm]; assumption)]; simpa [runL] using hO8
        have hL8 : Chg (fun k => k = g3 ∨ s_.hi ≤ k) w5 w8 := ((Ext.chg hx6).thenExt hx7).trans hc8 (fun k _ h => .inr (hf k h))
        have hB3 := hB3.chg hc8 (fun h => by have := hf _ h; omega)
        have hB4 := hB4.chg hc8 (fun h => by have := hult _ h; omega)
        refine WL.store (g := g3) (pre := []) (old := [.slice uA um uc]) (post := []) (new := [.slice vA vm vc]) rfl rfl rfl rfl (by kernel_rfl) (by simpa using hB3) (by first | rfl | (simp [digC_length, opC_length]; done) | (simp only [digC_length, opC_length]; omega)) (one1 rfl) (fun w9 hc9 hB9_ => ?_)
        have hz9 := hc9.size; skip; have hB4 := hB4.chg hc9 (fun h => by omega)
        have hB3 : Blk w9 g3 TSR [.slice vA vm vc] := by simpa using hB9_
        have hO9 := hO8.chg hc9 (fun k hk h => by have := hf8 k hk; have h : k = g3 := h; omega)
        have hL9 : Chg (fun k => k = g3 ∨ s_.hi ≤ k) w5 w9 := hL8.trans hc9 (fun k _ h => .inl h)
        refine WL.nil ?_
        exact ⟨.slice vA vm vc, (by repeat (first | exact Fr.le.nil | refine Fr.le.cons rfl ?_)), hB3, hO9, hf8, hL9⟩
   
      refine CW.skip ?_
      exact ⟨.slice uA um uc, (by repeat (first | exact Fr.le.nil | refine Fr.le.cons rfl ?_)), hB3, (by rw [openR_old (by rw [hm]; assumption)]; exact hO.ext hx6), hf, Ext.chg hx6⟩
    rintro u w10 hj10
    obtain ⟨hB3, hO, hf, hC10⟩ := hj10
    obtain ⟨A1, m1, c1, rfl⟩ := hO.lens
    obtain ⟨hm1, hcell1⟩ := run_cell hO
    obtain ⟨x1, hx1, hxk⟩ := openR_last L (nm (Fw.els ns) q).c
    have hl1 := openR_length L (nm (Fw.els ns) q).c
    have hpos : 0 < m1 := by have := (List.getElem?_eq_some_iff.1 hx1).1; omega
    obtain ⟨a1, x2, hax, hx2, _, hma1⟩ := hcell1 hpos
    subst hax
    rw [← hm1, hx1] at hx2
    obtain rfl := Option.some.inj hx2
    have hxb := openR_n hLn x1 (List.mem_of_getElem? hx1)
    obtain ⟨g1, hg1⟩ := run_head hO hpos
    subst hg1
    have hg1f : s_.hi ≤ g1 := hf g1 rfl
    have hset := addR_set hx1
    rw [hm1] at hx1 hset
    have hz10 := hC10.size
    refine CW.region ?_
    refine WL.val (Y.load1 Try.underlying38 rfl hB3.mem.cell0 rfl) (by first | decide | exact Nat.le_of_ble_eq_true rfl) ?_
    refine WL.val (Y.load1 Try.underlying38 rfl hB3.mem.cell0 rfl) (by first | decide | exact Nat.le_of_ble_eq_true rfl) ?_
    refine WL.val (Y.len_slice Try.underlying38 rfl) (by first | decide | exact Nat.le_of_ble_eq_true rfl) ?_
    refine WL.val (Y.subC (c := m1 - 1) rfl rfl (by omega) (by omega)) (by first | decide | exact Nat.le_of_ble_eq_true rfl) ?_
    refine WL.val (Y.indexAddrN Try.underlying38 rfl rfl sz0_apiRun (by omega)) (by first | decide | exact Nat.le_of_ble_eq_true rfl) ?_
    refine WL.val (Y.fieldAddr fo_apiRun1 rfl) (by first | decide | exact Nat.le_of_ble_eq_true rfl) ?_
    refine WL.val (Y.load1 Try.underlying3 rfl hma1.apiRun1 rfl) (by first | decide | exact Nat.le_of_ble_eq_true rfl) ?_
    refine WL.val (Y.add rfl rfl ⟨by omega, by omega⟩) (by first | decide | exact Nat.le_of_ble_eq_true rfl) ?_
    refine WL.val (Y.indexAddrN Try.underlying38 rfl rfl sz0_apiRun (by omega)) (by first | decide | exact Nat.le_of_ble_eq_true rfl) ?_
    refine WL.val (Y.fieldAddr fo_apiRun1 rfl) (by first | decide | exact Nat.le_of_ble_eq_true rfl) ?_
    refine WL.storeO (g := g1) (pre := runL ((openR L (nm (Fw.els ns) q).c).take (m1 - 1)) ++ digC x1.c) (old := [.int .i64 (x1.n : Int)]) (post := runL ((openR L (nm (Fw.els ns) q).c).drop (m1 - 1 + 1))) (new := [.int .i64 ((x1.n : Int) + 1)]) rfl (by rw [add_add, add_zero', List.length_append, runL_length, List.length_take, Nat.min_eq_left (by omega), digC_length]) rfl rfl (by kernel_rfl) (by rw [← (runL_n hx1 0).1]; exact hO) (by first | rfl | (simp [digC_length, opC_length]; done) | (simp only [digC_length, opC_length]; omega)) (one1 rfl) (fun w11 hc11 hB11_ => ?_)
    have hz11 := hc11.size; skip
    have hO2 : Own w11 TRu 33 (.slice (some ⟨g1, 0, none⟩) m1 c1) (runL (addR L (nm (Fw.els ns) q).c)) := by
      have e : ((x1.n : Int) + 1) = ((x1.n + 1 : Nat) : Int) := by omega
      rw [e, ← (runL_n hx1 (x1.n + 1)).2] at hB11_
      rw [hset]; exact hB11_
    have hB3 := hB3.chg hc11 (fun h => by have h : g3 = g1 := h; omega)
    have hL11 : Chg (fun k => k = g3 ∨ s_.hi ≤ k) w5 w11 := hC10.trans hc11 (fun k _ h => .inr (by have h : k = g1 := h; omega))
    have hC12 : Chg (fun k => k = g3) w2 w11 := hC9.trans hL11 (fun k hk h => by rcases h with h | h; exact h; exact False.elim (by omega))
    refine WL.nil ?_
    exact ⟨⟨hlo, hlh, by omega, _, hB3, (by rw [hnext]; exact hO2), hf, hC12⟩, hL11.mono fun k _ h => ⟨fun hk => by have h1 := hk.1; have h2 := hk.2; omega, by omega, by omega⟩⟩
  · intro s_ w12 hi_ hD_ hfin_
    obtain ⟨hlo, hlh, hhi, uR, hB3, hO, hf, hC⟩ := hi_
    have hxl : (allXs8 (Fw.els ns) s_).length = ds.length := by simp only [allXs8, List.length_map]; omega
    rw [hxl, List.take_of_length_le (Nat.le_refl _)] at hO
    have hzC := hC.size
    have hE := hE2.step hC (fun k h => by have h : k = g3 := h; omega)
    refine hK3 _ _ _ ?_; try clear hK3 K3
    refine CN.seq fun K7 hK7 => ?_
    refine CN.of_CW ?_
    refine CW.region ?_
    refine WL.val (Y.load1 Try.underlying38 rfl hB3.mem.cell0 rfl) (by first | decide | exact Nat.le_of_ble_eq_true rfl) ?_
    refine WL.val (Y.assign rfl) (by first | decide | exact Nat.le_of_ble_eq_true rfl) ?_
    refine WL.nil ?_
    refine hK7 _ _ _ ?_; try clear hK7 K7
    refine CN.ret ?_
    exact ⟨[w2.heap.size], rfl, by simp, (fun D hD => by simp at hD; subst hD; exact hD_), _, rfl, fun w_ hc => ⟨(by rw [blameE, ← hds]; exact hO.chg hc (fun k hk h => by simp at h; have := hf k hk; omega)), (fun q hq => by have := hf q hq; omega), hE.step hc (fun k h => by simp at h; omega)⟩⟩
  · intro s_ e_ w13 hi_ hD_ hfin_ he_
    exact hi_.elim
end Go.Proofs.Ytmndofgagngcgaa
