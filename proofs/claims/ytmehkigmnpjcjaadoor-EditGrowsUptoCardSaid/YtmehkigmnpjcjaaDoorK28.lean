/- Parts of a proof: what its last text leans on. No condition. -/
import Derived.Test.YtmehkigmnpjcjaaDoorK19
import Derived.Test.YtmehkigmnpjcjaaDoorK27
set_option linter.unusedSimpArgs false
set_option linter.unusedVariables false
/- Whom a text comes of: edit.Blame, the document's Blame, two lists of runs, walked. No condition but bounds. -/
deriving instance DecidableEq for Go.Fu.RuD
namespace Go.Fw
open Go.RowKit Go.Fu
def runC (r : RuD) : List Value := digC r.c ++ [.int .i64 (r.n : Int)]
theorem runC_length (r : RuD) : (runC r).length = 33 := by rw [runC, List.length_append, digC_length]; rfl
theorem one_runC {r : RuD} : ∀ u ∈ runC r, u.oneCell' = true := by
 intro u hu
 rw [runC, List.mem_append] at hu
 rcases hu with hu | hu
 ·
  exact one_digC u hu
 ·
  simp at hu; subst hu; rfl
abbrev runL (l : List RuD) : List Value := (l.map runC).flatten
theorem runL_length (l : List RuD) : (runL l).length = l.length * 33 := flat_length runC_length l
section
variable {w : World} {a : Addr} {x : RuD} (h : Mem w a (runC x))
include h
theorem Mem.apiRun0 : Mem w (a.add 0) (digC x.c) := h.sub 0 fun j v hj => by
 have hlt : j < (digC x.c).length := (List.getElem?_eq_some_iff.1 hj).1
 rw [Nat.zero_add, runC, List.getElem?_append_left hlt]; exact hj
theorem Mem.apiRun1 : w.cell? (a.add 32) = some (.int .i64 (x.n : Int)) := h.cell 32 (by rw [runC, List.getElem?_append_right (by rw [digC_length]; omega), digC_length]; rfl)
end
theorem runL_n {l : List RuD} {i : Nat} {x : RuD} (h : l[i]? = some x) (n : Nat) : runL l = (runL (l.take i) ++ digC x.c) ++ [.int .i64 (x.n : Int)] ++ runL (l.drop (i + 1)) ∧ runL (l.set i ⟨x.c, n⟩) = (runL (l.take i) ++ digC x.c) ++ [.int .i64 (n : Int)] ++ runL (l.drop (i + 1)) := by
 obtain ⟨h1, h2⟩ := flat_split (enc := runC) (⟨x.c, n⟩ : RuD) h
 exact ⟨by rw [runL, h1]; simp only [runC, List.append_assoc], by rw [runL, h2]; simp only [runC, List.append_assoc]⟩
noncomputable def openR (l : List RuD) (d : Dig) : List RuD := if l.getLast?.map RuD.c = some d then l else l ++ [⟨d, 0⟩]
def lastR (l : List RuD) : Dig := ((l[l.length - 1]?).map RuD.c).getD Dig.zero
theorem lastR_iff {l : List RuD} (h : 0 < l.length) (d : Dig) : l.getLast?.map RuD.c = some d ↔ lastR l = d := by
 obtain ⟨x, hx⟩ : ∃ x, l[l.length - 1]? = some x := ⟨_, List.getElem?_eq_getElem om_⟩
 rw [List.getLast?_eq_getElem?, lastR, hx]; simp
theorem openR_new {l : List RuD} {d : Dig} (h : (l.length : Int) = 0 ∨ ¬ lastR l = d) : openR l d = l ++ [⟨d, 0⟩] := by
 rw [openR, if_neg]
 intro h1
 rcases Nat.eq_zero_or_pos l.length with h0 | h0
 ·
  obtain rfl := List.eq_nil_of_length_eq_zero h0; simp at h1
 ·
  rcases h with h | h
  ·
   omega
  ·
   exact h ((lastR_iff h0 d).1 h1)
theorem openR_old {l : List RuD} {d : Dig} (h : ¬ ((l.length : Int) = 0 ∨ ¬ lastR l = d)) : openR l d = l := by
 rw [openR, if_pos]
 have h0 : ¬ (l.length : Int) = 0 := fun e => h (.inl e)
 have h1 : lastR l = d := Decidable.not_not.1 fun e => h (.inr e)
 exact (lastR_iff om_ d).2 h1
theorem openR_last (l : List RuD) (d : Dig) : ∃ x, (openR l d)[(openR l d).length - 1]? = some x ∧ x.c = d := by
 unfold openR
 split
 ·
  rename_i h
  rw [List.getLast?_eq_getElem?] at h
  obtain ⟨e, he, hk⟩ := Option.map_eq_some_iff.1 h
  exact ⟨e, he, hk⟩
 ·
  exact ⟨⟨d, 0⟩, by simp, rfl⟩
theorem openR_length (l : List RuD) (d : Dig) : (openR l d).length ≤ l.length + 1 := by
 unfold openR; split <;> simp
theorem openR_n {l : List RuD} {d : Dig} {N : Nat} (h : ∀ x ∈ l, x.n ≤ N) : ∀ x ∈ openR l d, x.n ≤ N := fun x hx => by
 unfold openR at hx
 split at hx
 ·
  exact h x hx
 ·
  rcases List.mem_append.1 hx with hx | hx
  ·
   exact h x hx
  ·
   simp at hx; subst hx; exact Nat.zero_le _
theorem modify_lst {α : Type} {m : List α} {x : α} {f : α → α} (h : m[m.length - 1]? = some x) : m.modify (m.length - 1) f = m.set (m.length - 1) (f x) := by
 apply List.ext_getElem?
 intro i
 rw [List.getElem?_modify, List.getElem?_set]
 have hlt := (List.getElem?_eq_some_iff.1 h).1
 by_cases e : m.length - 1 = i
 ·
  subst e; rw [if_pos rfl, if_pos hlt, h]; simp
 ·
  rw [if_neg e]
  cases m[i]? with
  | none => rfl
  | some y => show some (if m.length - 1 = i then _ else y) = _; rw [if_neg e]
theorem addR_set {l : List RuD} {d : Dig} {x : RuD} (h : (openR l d)[(openR l d).length - 1]? = some x) : addR l d = (openR l d).set ((openR l d).length - 1) ⟨x.c, x.n + 1⟩ := by
 unfold openR at h ⊢
 unfold addR
 split
 ·
  rename_i hc
  rw [if_pos hc] at h
  exact modify_lst h
 ·
  rename_i hc
  rw [if_neg hc] at h
  simp at h; subst h
  simp
theorem spread_n : ∀ {l : List RuD} {x : RuD}, x ∈ l → x.n ≤ (spread l).length
 | r :: l, x, hx => by
  rw [spread, List.flatMap_cons, List.length_append, List.length_replicate]
  rcases List.mem_cons.1 hx with rfl | hx
  ·
   omega
  ·
   have := spread_n hx; rw [spread] at this; omega
theorem spread_len : ∀ {l : List RuD}, (∀ r ∈ l, 1 ≤ r.n) → l.length ≤ (spread l).length
 | [], _ => Nat.zero_le _
 | r :: l, h => by
  have h1 := h r (by simp)
  have h2 := spread_len (l := l) fun x hx => h x (by simp [hx])
  rw [spread] at h2
  rw [spread, List.flatMap_cons, List.length_append, List.length_replicate, List.length_cons]; omega
theorem runs_nil : RunsOk [] [] := ⟨rfl, fun r h => (nomatch h), fun i r s h => by simp at h⟩
theorem runs_bd (ds : List Dig) : (ds.foldl addR []).length ≤ ds.length ∧ ∀ x ∈ ds.foldl addR [], x.n ≤ ds.length := by
 have h := runs_fold runs_nil ds
 rw [List.nil_append] at h
 have h1 := h.all
 refine ⟨?_, fun x hx => ?_⟩
 ·
  have := spread_len h.pos; rw [h1] at this; exact this
 ·
  have := spread_n hx; rw [h1] at this; exact this
end Go.Fw
namespace Go.Proofs.YtmehkigmnpjcjaaDoor
open Go.RowKit Go.Fw Go.Fu Go.Pl
abbrev TRu : TypeId := 68
abbrev TSR : TypeId := 65
abbrev URu := Tryd.underlying65
theorem sz0_apiRun : (Tryd.prog.info? TRu).map (·.size) = some 33 := by kernel_rfl
theorem sz_apiRun (x : RuD) : (Tryd.prog.info? TRu).map (·.size) = some (runC x).length := by rw [runC_length]; exact sz0_apiRun
theorem fo_apiRun0 : FieldOff Tryd.prog TRu 0 0 := ⟨_, _, 32, Tryd.underlying68, rfl, sz_dig, by decide, rfl⟩
theorem fo_apiRun1 : FieldOff Tryd.prog TRu 1 32 := ⟨_, _, 1, Tryd.underlying68, rfl, sz_int, by decide, rfl⟩
theorem ai_run : AppInfo Tryd.prog TRu 33 40 := by
 have h : (Tryd.prog.info? TRu).map (fun i => (i.size, i.bytes, i.zero)) = some (33, 40, some (.agg (runC ⟨Dig.zero, 0⟩).toArray)) := by kernel_rfl
 obtain ⟨i, hi, h⟩ := Option.map_eq_some_iff.1 h
 injection h with h1 h2
 injection h2 with h2 h3
 exact ⟨i, _, hi, h3, h1, by show (runC ⟨Dig.zero, 0⟩).toArray.size = 33; simp [runC_length], h2, by decide, by decide⟩
theorem bs1_run (r : RuD) (w : World) : (Instr.buildSlice TSR 1 [(0, .agg (runC r).toArray)].toArray).run Tryd.prog w = .ok (.slice (some ⟨w.heap.size, 0, none⟩) 1 1) (w.alloc (.cells (runC r).toArray TRu)) := by
 obtain ⟨i, z, hi, hz, hk, _⟩ := ai_run
 exact run_bs1 URu hi hz om_ om_ rfl (by rw [runC_length, hk]) w
theorem built_run (parts : List (Nat × Value)) : Tryd.prog.built TRu parts = Instr.fill (fun i => #[(0, 32), (32, 1)][i]?) (runC ⟨Dig.zero, 0⟩).toArray parts := by kernel_rfl
theorem build_run (d : Dig) (w : World) : (Instr.build TRu [(0, digV d)].toArray).run Tryd.prog w = .ok (.agg (runC ⟨d, 0⟩).toArray) w := run_build w _ _ _ (by
 show Tryd.prog.built _ [(0, digV d)] = _
 rw [built_run]
 have e0 : runC ⟨Dig.zero, 0⟩ = [] ++ digC Dig.zero ++ [Value.int .i64 ((0 : Nat) : Int)] := rfl
 rw [e0, fill_step [] (digC Dig.zero) [Value.int .i64 ((0 : Nat) : Int)] (digC d) (by rw [digC_length]; rfl) rfl (by rw [digC_length, digC_length]) rfl, Instr.fill]
 rfl)
theorem guard_run : Tryd.prog.eqGuardType Tryd.prog.depth TRu = false := by kernel_rfl
theorem held_run : Tryd.prog.stoodInHeld TRu = false := by kernel_rfl
theorem fields_run : ∃ f0 f1 : Field, (Tryd.prog.fieldsOf TRu).toList = [f0, f1] ∧ f0.name ≠ "_" ∧ f1.name ≠ "_" ∧ f0.type = 36 ∧ f1.type = 3 ∧ f0.offset = 0 ∧ f1.offset = 32 := by
 refine ⟨_, _, (by simp only [Program.fieldsOf, Tryd.underlying68]; rfl), ?_, ?_, rfl, rfl, rfl, rfl⟩ <;> decide
theorem ht_run : Tryd.prog.underlying TRu = some (.struct (Tryd.prog.fieldsOf TRu)) := by simp only [Program.fieldsOf, Tryd.underlying68]
theorem run_c (r : RuD) : (runC r).toArray.extract 0 (0 + 32) = (digC r.c).toArray := by
 have := digC_length r.c
 simp [runC, List.take_append, this]
theorem run_n (r : RuD) : (runC r).toArray[32]? = some (.int .i64 (r.n : Int)) := by
 have := digC_length r.c
 simp [runC, List.getElem?_append_right, this]
theorem eqIn_run (d : Nat) (a b : RuD) (w : World) : (Op.equalIn (d + 3) TRu (.agg (runC a).toArray) (.agg (runC b).toArray)).run Tryd.prog w = .ok (decide (a = b)) w := by
 rw [run_equalIn_struct (P := Tryd.prog) w (d + 2) _ _ _ ht_run held_run]
 obtain ⟨f0, f1, hf, n0, n1, t0, t1, o0, o1⟩ := fields_run
 rw [hf]
 simp only [Op.eqFields, Sem.run_ite, Sem.run_pure, n0, n1, t0, t1, o0, o1, ne_eq, not_false_eq_true, if_true, Sem.run_bind, part_one Tryd.underlying3 rfl (run_n _), part_dig, run_c, Result.andThen_ok, eqIn_dig,
  run_equalIn_int w _ _ _ _ _ _ Tryd.underlying3]
 obtain ⟨ac, an⟩ := a
 obtain ⟨bc', bn⟩ := b
 have hn : ((an : Int) == (bn : Int)) = decide (an = bn) := by rw [Bool.eq_iff_iff]; simp [Int.natCast_inj]
 by_cases h1 : ac = bc' <;> by_cases h2 : an = bn <;> simp [h1, h2, hn]
section
variable {n : NN} {fr : Fr} {ty t' : TypeId} {x y : Operand} {w : World}
end
theorem run_cell {w : World} {l : List RuD} {A : Option Addr} {m c : Nat} (h : Own w TRu 33 (.slice A m c) (runL l)) : l.length = m ∧ (0 < m → ∃ a x, A = some a ∧ l[m - 1]? = some x ∧ x.c = lastR l ∧ Mem w (a.add ((m - 1) * 33)) (runC x)) := by
 have h1 : l.length = m := by
  have h2 := (h.mem A m c rfl).2.2.1
  rw [runL_length] at h2; omega
 refine ⟨h1, fun h0 => ?_⟩
 obtain ⟨x, hx⟩ : ∃ x, l[m - 1]? = some x := ⟨_, List.getElem?_eq_getElem om_⟩
 obtain ⟨a, ha, hm⟩ := (h.sl runC_length de_).get hx
 exact ⟨a, x, ha, hx, by rw [lastR, h1, hx]; rfl, hm⟩
theorem run_head {w : World} {l : List RuD} {a : Addr} {m c : Nat} (h : Own w TRu 33 (.slice (some a) m c) (runL l)) (h0 : 0 < m) : ∃ g, a = ⟨g, 0, none⟩ := by
 obtain ⟨g, hg, _⟩ := h.head (by
  intro e
  have h2 := (run_cell h).1
  have h3 := runL_length l
  rw [e] at h3; simp at h3; omega)
 injection hg with hg
 exact ⟨g, hg⟩
set_option maxRecDepth 100000 in
set_option maxHeartbeats 2000000 in
theorem fblame_any (g rb ra : Nat) (ad : List Dig) (ns : List Nn) (w : World) (hT : FtAt w g rb ra ad ns) (hG : Fu.Good (Fw.els ns)) (hn : ns.length ≤ 400001) : Calls Tryd.prog 20 #[.pointer (some ⟨g, 0, none⟩)] w (Ret fun v w' => Own w' TRu 33 v (runL (blameE (Fw.els ns))) ∧ (∀ q, v.ownBlock = some q → w.heap.size ≤ q) ∧ Ext w w') := by
 have hlv : (seenE (Fw.els ns)).length ≤ 400001 := by
  have h1 := List.countP_le_length (p := fun x : El => !x.gone) (l := Fw.els ns)
  rw [hG.seen_length]; rw [List.length_map] at h1; exact Nat.le_trans h1 hn
 obtain ⟨ds, hds⟩ : ∃ ds : List Dig, ds = (seenE (Fw.els ns)).map fun q => (nm (Fw.els ns) q).c := ⟨_, rfl⟩
 have hdl : ds.length = (seenE (Fw.els ns)).length := by rw [hds, List.length_map]
 have hTl := fun q (hq : Fp g rb ra ns q) => hT.lt hq
 refine calls_of_CN 41 [2] [(0, .pointer (some ⟨g, 0, none⟩))] Tryd.func20 rfl rfl rfl (by simp) args1 ?_
 have hE : Ext w w := Chg.refl
 refine CN.seq fun K1 hK1 => ?_
 refine CN.of_CW ?_
 refine CW.region ?_
 refine WL.val (Y.assign rfl) dx_ ?_
 refine WL.nil ?_
 refine hK1 _ _ _ ?_; try clear hK1
 refine CN.seq fun K2 hK2 => ?_
 refine CN.of_CW ?_
 refine CW.region ?_
 refine WL.alloc1 (z := .slice none 0 0) kr_ rfl dx_ fun g3 w1 hx1 hg3 hB3 => ?_
 have hlt3 := hB3.lt; have hz1 := hx1.size
 have hM3 := hB3.mem; have hz1 := hx1.size; have hE := hE.thenExt hx1
 refine WL.nil ?_
 refine hK2 _ _ _ ?_; try clear hK2
 refine CN.seq fun K3 hK3 => ?_
 refine CN.seq fun K4 hK4 => ?_
 refine CN.of_CW ?_
 refine CW.region ?_
 refine WL.val (Y.move rfl) dx_ ?_
 refine WL.call Tryd.func33 rfl rfl rfl (fall_any ⟨g, 0, none⟩ _) (by simp) ?_; rintro v6 w2 hR2
 obtain ⟨b6, rfl, hgb, hBb, hx2⟩ := hR2
 have hz2 := hx2.size
 have hE := hE.thenExt hx2
 have hB3 := hB3.ext hx2
 have hT2 := hT.ext hE
 have hE2 := hE
 refine WL.nil ?_
 refine hK4 _ _ _ ?_; try clear hK4
 refine CN.block ?_
 refine CN.rangeN (rfl) Tryd.func56 rfl rfl (fall1_any g rb ra ad ns b6 _ hT2 hG hn hBb) (fun _ => rfl) dx_ (fun _ h => h.elim) (fun w1 s V hz hs i hk => by have := hs.1; have := hk.1; omega) (fun s i V => w2.heap.size + 2 ≤ s.lo ∧ s.lo ≤ s.hi ∧ s.hi ≤ V.heap.size ∧ ∃ u, Blk V g3 TSR [u] ∧ Own V TRu 33 u (runL ((ds.take i).foldl addR [])) ∧ (∀ q, u.ownBlock = some q → s.hi ≤ q) ∧ Chg (fun k => k = g3) w2 V) (fun _ _ _ => False) ?_ ?_ ?_ ?_ ?_ ?_ ?_
 ·
  intro w1_ s_ V hw_ hz_ hc_ hs_
  exact ⟨by have := hs_.1; omega, hs_.2.1, hs_.2.2, .slice none 0 0, (hB3.ext hw_).ext hc_, Own.nil, (fun q h => by simp [Value.ownBlock] at h), Ext.chg (hw_.thenExt hc_)⟩
 ·
  intro s_ i_ V V_ hi_ hc_
  obtain ⟨hlo, hlh, hhi, u, hB3, hO, hf, hC⟩ := hi_
  have hzc := hc_.size
  exact ⟨hlo, hlh, by omega, u, hB3.chg hc_ (fun h => by rcases h with h | h; exact h; omega), hO.chg hc_ (fun q hq h => by rcases h with h | h; exact h; have := hf q hq; omega), hf, hC.trans hc_ (fun k hk h => by rcases h with h | h; exact h.elim; exact False.elim om_)⟩
 ·
  intro s_ e_ V V_ hi_ hc_
  exact hi_.elim
 ·
  intro s_ i_ V hi_
  obtain ⟨_, _, _, _, _, _, _, hC⟩ := hi_
  exact (hT2.chg hC (fun q hq h => by have := hTl q hq; have h : q = g3 := h; omega)).allN hG
 ·
  intro s_ i_ x_ w3 hi_ hx_ hat_ hz_
  obtain ⟨hlo, hlh, hhi, u, hB3, hO, hf, hC⟩ := hi_
  obtain ⟨q, hq, rfl⟩ : ∃ q, (seenE (Fw.els ns))[i_]? = some q ∧ (nm (Fw.els ns) q, byteAt (Fw.els ns) q) = x_ := by
   rw [allXs8, List.getElem?_map] at hx_
   exact Option.map_eq_some_iff.1 hx_
  have hil := (List.getElem?_eq_some_iff.1 hq).1
  have hdq : ds[i_]? = some (nm (Fw.els ns) q).c := by rw [hds, List.getElem?_map, hq]; rfl
  obtain ⟨L, hL⟩ : ∃ L, L = (ds.take i_).foldl addR [] := ⟨_, rfl⟩
  have hnext : (ds.take (i_ + 1)).foldl addR [] = addR L (nm (Fw.els ns) q).c := by rw [Go.Pl.take_succ hdq, List.foldl_append, ← hL]; rfl
  obtain ⟨hLl, hLn⟩ := runs_bd (ds.take i_)
  rw [← hL] at hO hLl hLn
  rw [List.length_take] at hLl hLn
  have hLn : ∀ x ∈ L, x.n ≤ i_ := fun x hx => by have := hLn x hx; omega
  have hult := hO.lt
  obtain ⟨uA, um, uc, rfl⟩ := hO.lens
  have hE : Ext w3 w3 := Chg.refl
  refine CW.region ?_
  refine as_apiRef rfl (by simp) dx_ fun g4 w4 hx4 hg4 hB4 => ?_
  have hlt4 := hB4.lt; have hz4 := hx4.size
  have hM4 := hB4.mem; have hz4 := hx4.size; have hE := hE.thenExt hx4; have hB3 := hB3.ext hx4
  refine WL.nil ?_
  have hE_ : Ext w3 w4 := hx4
  refine ⟨hE_, fun w5 hc_ => ?_⟩
  have hz5 := hc_.size
  have hB3 := hB3.chg hc_ no_
  have hB4 := hB4.chg hc_ no_
  have hO := (hO.ext hx4).chg hc_ (fun k hk h => by have := hf k hk; omega)
  have hC9 : Chg (fun k => k = g3) w2 w5 := (hC.thenExt hx4).trans hc_ (fun k hk h => False.elim om_)
  have hE : Ext w5 w5 := Chg.refl
  obtain ⟨hm, hcell⟩ := run_cell hO
  refine CW.block ?_
  refine CW.seq_to (X := Value) (fun _ => [(3, .pointer (some ⟨g3, 0, none⟩)), (4, .pointer (some ⟨g4, 0, none⟩))]) (fun u1 w0 => Blk w0 g3 TSR [u1] ∧ Own w0 TRu 33 u1 (runL (openR L (nm (Fw.els ns) q).c)) ∧ (∀ k, u1.ownBlock = some k → s_.hi ≤ k) ∧ Chg (fun k => k = g3 ∨ s_.hi ≤ k) w5 w0) ?_ ?_
  ·
   skip
   refine CW.seq_testE 23 ((um : Int) = 0 ∨ ¬ lastR L = (nm (Fw.els ns) q).c) ?_ ?_
   ·
    refine CW.quiet (fun wq => Ext w5 wq) kr_ kr_ Chg.drew ?_
    refine QL.val (fun wq hq => Y.load1 Tryd.underlying65 rfl (hB3.ext hq).mem.cell0 rfl) dx_ ?_
    refine QL.val (fun wq hq => Y.len_slice Tryd.underlying65 rfl) dx_ ?_
    refine QL.val (fun wq hq => Y.eql rfl rfl) dx_ ?_
    refine QL.val (fun wq hq => Y.move rfl) dx_ ?_
    (first | refine QL.casesD (d := 12) rfl ?_ ?_ | refine QL.casesND (d := 12) rfl ?_ ?_ | refine QL.cases (d := 12) rfl ?_ ?_) <;> intro hg12
    ·
     -- t12 = T
     refine QL.goff rfl rfl dx_ ?_
     refine QL.goff rfl rfl dx_ ?_
     refine QL.goff rfl rfl dx_ ?_
     refine QL.goff rfl rfl dx_ ?_
     refine QL.goff rfl rfl dx_ ?_
     refine QL.goff rfl rfl dx_ ?_
     refine QL.goff rfl rfl dx_ ?_
     refine QL.goff rfl rfl dx_ ?_
     refine QL.goff rfl rfl dx_ ?_
     refine QL.goff rfl rfl dx_ ?_
     refine QL.val (fun wq hq => Y.pick rfl rfl) dx_ ?_
     refine QL.nil fun wq hq => ⟨⟨_, rfl, ?_⟩, hq, Fr.okp⟩
     exact tst_ok
    ·
     -- t12 = F
     obtain ⟨a, x, hax, hx, hxk, hma⟩ := hcell om_
     subst hax
     rw [← hxk]
     refine QL.gval rfl rfl (fun wq hq => Y.load1 Tryd.underlying65 rfl (hB3.ext hq).mem.cell0 rfl) dx_ ?_
     refine QL.gval rfl rfl (fun wq hq => Y.load1 Tryd.underlying65 rfl (hB3.ext hq).mem.cell0 rfl) dx_ ?_
     refine QL.gval rfl rfl (fun wq hq => Y.len_slice Tryd.underlying65 rfl) dx_ ?_
     refine QL.gval rfl rfl (fun wq hq => Y.subC (c := um - 1) rfl rfl om_ om_) dx_ ?_
     refine QL.gval rfl rfl (fun wq hq => Y.indexAddrN Tryd.underlying65 rfl rfl sz0_apiRun om_) dx_ ?_
     refine QL.gval rfl rfl (fun wq hq => Y.fieldAddr fo_apiRun0 rfl) dx_ ?_
     refine QL.gval rfl rfl (fun wq hq => Y.load Tryd.underlying36 rfl (hma.ext hq).apiRun0 (sz_apiDigest _) rfl) dx_ ?_
     refine QL.gval rfl rfl (fun wq hq => Y.fieldAddr fo_apiRef1 rfl) dx_ ?_
     refine QL.gval rfl rfl (fun wq hq => Y.load Tryd.underlying36 rfl (hB4.ext hq).mem.ref1 (sz_apiDigest _) rfl) dx_ ?_
     refine QL.gval rfl rfl (fun wq hq => Y.neq_apiDigest rfl rfl) dx_ ?_
     refine QL.val (fun wq hq => Y.pick rfl rfl) dx_ ?_
     refine QL.nil fun wq hq => ⟨⟨_, rfl, ?_⟩, hq, Fr.okp⟩
     exact tst_ok
   intro w6 hx6; have hz6 := hx6.size; have hE := hE.thenExt hx6; have hB3 := hB3.ext hx6; have hB4 := hB4.ext hx6
   (first | refine cd_ rfl ?_ ?_ | refine ce_ rfl ?_ ?_ | refine cn_ rfl ?_ ?_ | refine cb_ rfl ?_ ?_) <;> intro ht6
   ·
    -- then
    refine CW.region ?_
    refine WL.val (Y.load1 Tryd.underlying65 rfl hB3.mem.cell0 rfl) dx_ ?_
    refine WL.val (Y.fieldAddr fo_apiRef1 rfl) dx_ ?_
    refine WL.val (Y.load Tryd.underlying36 rfl hB4.mem.ref1 (sz_apiDigest _) rfl) dx_ ?_
    refine WL.val (Y.build rfl (build_run _ _)) dx_ ?_
    refine WL.st (St.buildSlice rfl (bs1_run _)) dx_ fun v28 w7 hR7 => ?_
    obtain ⟨g28, rfl, hg28, hB28, hx7⟩ := hR7
    have hz7 := hx7.size
    have hB3 := hB3.ext hx7
    have hB4 := hB4.ext hx7
    refine WL.st (St.append (m := 1) (news := runC ⟨(nm (Fw.els ns) q).c, 0⟩) URu URu ai_run rfl rfl ((hO.ext hx6).ext hx7) (Fw.Src.one hB28 (runC_length _)) one_runC (by rw [runL_length]; omega)) dx_ fun v29 w8 hR8 => ?_
    obtain ⟨hO8, hc8, hf8⟩ := hR8
    have hz8 := hc8.size
    obtain ⟨vA, vm, vc, rfl⟩ := hO8.lens
    have hf8 : ∀ k, (Value.slice vA vm vc).ownBlock = some k → s_.hi ≤ k := fun k hk => by
     rcases hf8 with h | h
     ·
      rw [h] at hk; exact hf k hk
     ·
      have := h k hk; omega
    have hO8 : Own w8 TRu 33 (.slice vA vm vc) (runL (openR L (nm (Fw.els ns) q).c)) := by rw [openR_new (by rw [hm]; assumption)]; simpa [runL] using hO8
    have hL8 : Chg (fun k => k = g3 ∨ s_.hi ≤ k) w5 w8 := ((Ext.chg hx6).thenExt hx7).trans hc8 (fun k _ h => .inr (hf k h))
    have hB3 := hB3.chg hc8 (fun h => by have := hf _ h; omega)
    have hB4 := hB4.chg hc8 (fun h => by have := hult _ h; omega)
    refine WL.store (g := g3) (pre := []) (old := [.slice uA um uc]) (post := []) (new := [.slice vA vm vc]) rfl rfl rfl rfl kr_ (by simpa using hB3) ln_ (one1 rfl) (fun w9 hc9 hB9_ => ?_)
    have hz9 := hc9.size; skip; have hB4 := hB4.chg hc9 no_
    have hB3 : Blk w9 g3 TSR [.slice vA vm vc] := by simpa using hB9_
    have hO9 := hO8.chg hc9 (fun k hk h => by have := hf8 k hk; have h : k = g3 := h; omega)
    have hL9 : Chg (fun k => k = g3 ∨ s_.hi ≤ k) w5 w9 := hL8.trans hc9 (fun k _ h => .inl h)
    refine WL.nil ?_
    exact ⟨.slice vA vm vc, Fr.ok, hB3, hO9, hf8, hL9⟩
   refine CW.skip ?_
   exact ⟨.slice uA um uc, Fr.ok, hB3, (by rw [openR_old (by rw [hm]; assumption)]; exact hO.ext hx6), hf, Ext.chg hx6⟩
  rintro u w10 hj10
  obtain ⟨hB3, hO, hf, hC10⟩ := hj10
  obtain ⟨A1, m1, c1, rfl⟩ := hO.lens
  obtain ⟨hm1, hcell1⟩ := run_cell hO
  obtain ⟨x1, hx1, hxk⟩ := openR_last L (nm (Fw.els ns) q).c
  have hl1 := openR_length L (nm (Fw.els ns) q).c
  have hpos : 0 < m1 := by have := (List.getElem?_eq_some_iff.1 hx1).1; omega
  obtain ⟨a1, x2, hax, hx2, _, hma1⟩ := hcell1 hpos
  subst hax
  rw [← hm1, hx1] at hx2
  obtain rfl := Option.some.inj hx2
  have hxb := openR_n hLn x1 (List.mem_of_getElem? hx1)
  obtain ⟨g1, hg1⟩ := run_head hO hpos
  subst hg1
  have hg1f : s_.hi ≤ g1 := hf g1 rfl
  have hset := addR_set hx1
  rw [hm1] at hx1 hset
  have hz10 := hC10.size
  refine CW.region ?_
  refine WL.val (Y.load1 Tryd.underlying65 rfl hB3.mem.cell0 rfl) dx_ ?_
  refine WL.val (Y.load1 Tryd.underlying65 rfl hB3.mem.cell0 rfl) dx_ ?_
  refine WL.val (Y.len_slice Tryd.underlying65 rfl) dx_ ?_
  refine WL.val (Y.subC (c := m1 - 1) rfl rfl om_ om_) dx_ ?_
  refine WL.val (Y.indexAddrN Tryd.underlying65 rfl rfl sz0_apiRun om_) dx_ ?_
  refine WL.val (Y.fieldAddr fo_apiRun1 rfl) dx_ ?_
  refine WL.val (Y.load1 Tryd.underlying3 rfl hma1.apiRun1 rfl) dx_ ?_
  refine WL.val (Y.add rfl rfl o2_) dx_ ?_
  refine WL.val (Y.indexAddrN Tryd.underlying65 rfl rfl sz0_apiRun om_) dx_ ?_
  refine WL.val (Y.fieldAddr fo_apiRun1 rfl) dx_ ?_
  refine WL.storeO (g := g1) (pre := runL ((openR L (nm (Fw.els ns) q).c).take (m1 - 1)) ++ digC x1.c) (old := [.int .i64 (x1.n : Int)]) (post := runL ((openR L (nm (Fw.els ns) q).c).drop (m1 - 1 + 1))) (new := [.int .i64 ((x1.n : Int) + 1)]) rfl (by rw [add_add, add_zero', List.length_append, runL_length, List.length_take, Nat.min_eq_left om_, digC_length]) rfl rfl kr_ (by rw [← (runL_n hx1 0).1]; exact hO) ln_ (one1 rfl) (fun w11 hc11 hB11_ => ?_)
  have hz11 := hc11.size; skip
  have hO2 : Own w11 TRu 33 (.slice (some ⟨g1, 0, none⟩) m1 c1) (runL (addR L (nm (Fw.els ns) q).c)) := by
   have e : ((x1.n : Int) + 1) = ((x1.n + 1 : Nat) : Int) := by omega
   rw [e, ← (runL_n hx1 (x1.n + 1)).2] at hB11_
   rw [hset]; exact hB11_
  have hB3 := hB3.chg hc11 (fun h => by have h : g3 = g1 := h; omega)
  have hL11 : Chg (fun k => k = g3 ∨ s_.hi ≤ k) w5 w11 := hC10.trans hc11 (fun k _ h => .inr (by have h : k = g1 := h; omega))
  have hC12 : Chg (fun k => k = g3) w2 w11 := hC9.trans hL11 (fun k hk h => by rcases h with h | h; exact h; exact False.elim om_)
  refine WL.nil ?_
  exact ⟨⟨hlo, hlh, by omega, _, hB3, (by rw [hnext]; exact hO2), hf, hC12⟩, hL11.mono fun k _ h => ⟨fun hk => by have h1 := hk.1; have h2 := hk.2; omega, by omega, by omega⟩⟩
 ·
  intro s_ w12 hi_ hD_ hfin_
  obtain ⟨hlo, hlh, hhi, uR, hB3, hO, hf, hC⟩ := hi_
  have hxl : (allXs8 (Fw.els ns) s_).length = ds.length := by simp only [allXs8, List.length_map]; omega
  rw [hxl, List.take_of_length_le (Nat.le_refl _)] at hO
  have hzC := hC.size
  have hE := hE2.step hC (fun k h => by have h : k = g3 := h; omega)
  refine hK3 _ _ _ ?_; try clear hK3
  refine CN.seq fun K7 hK7 => ?_
  refine CN.of_CW ?_
  refine CW.region ?_
  refine WL.val (Y.load1 Tryd.underlying65 rfl hB3.mem.cell0 rfl) dx_ ?_
  refine WL.val (Y.assign rfl) dx_ ?_
  refine WL.nil ?_
  refine hK7 _ _ _ ?_; try clear hK7
  refine CN.ret ?_
  exact ⟨[w2.heap.size], rfl, by simp, (fun D hD => by simp at hD; subst hD; exact hD_), _, rfl, fun w_ hc => ⟨(by rw [blameE, ← hds]; exact hO.chg hc (fun k hk h => by simp at h; have := hf k hk; omega)), (fun q hq => by have := hf q hq; omega), hE.step hc (fun k h => by simp at h; omega)⟩⟩
 ·
  intro s_ e_ w13 hi_ hD_ hfin_ he_
  exact hi_.elim
end Go.Proofs.YtmehkigmnpjcjaaDoor
/- recensionlaw10's alive, walked. No condition. -/
namespace Go.Fw
open Go.RowKit
theorem WL.gst {P : Program} {n : NN} {Φ : Exit → Fr → World → Prop} {fr : Fr} {w : World} {ty : TypeId} {R : Value → World → Prop} {ops : Array Oper} {rest : List Oper} {d j dj : Nat} {b : Bool} {o : Op} {pos : String} {aft : Array Edge}
  (hj : (ops[j]?).bind (·.dst) = some dj) (hg : fr.get dj = some (.bool b))
  (hs : St P n fr o ty w R) (hd : d < n.1) (h : ∀ v w', R v w' → WL P ops n Φ rest ((d, v) :: fr) w') : WL P ops n Φ (⟨some d, o, ty, pos, aft, some (j, b)⟩ :: rest) fr w := fun a ha =>
 wpList_step fun K hK => by
  obtain ⟨v, w', hr, hR⟩ := hs a ⟨some d, o, ty, pos, aft, some (j, b)⟩ rfl rfl ha
  rw [if_pos (by simp [Region.wanted, yielded_eq ha hj hg])]
  unfold Oper.wp
  rw [hr]
  exact hK _ _ (h v w' hR _ (ha.put hd v))
end Go.Fw
namespace Go.Fu
open Go.Fw Go.Pl
theorem alive_ops : opsR (addT Tr.new D1 aliveOps).e [97, 120] = [⟨2, false, ⟨false, D1, 2⟩, 0⟩, ⟨1, true, ⟨false, D1, 2⟩, 120⟩] := by decide
theorem alive_blame : blameE (addT Tr.new D1 aliveOps).e = [⟨D1, 2⟩] := by decide
end Go.Fu
namespace Go.Proofs.YtmehkigmnpjcjaaDoor
open Go.RowKit Go.Fw Go.Fu Go.Pl
theorem build_run2 (d : Dig) (w : World) : (Instr.build TRu [(0, digV d), (1, Value.int .i64 2)].toArray).run Tryd.prog w = .ok (.agg (runC ⟨d, 2⟩).toArray) w := run_build w _ _ _ (by
 show Tryd.prog.built _ [(0, digV d), (1, Value.int .i64 2)] = _
 rw [built_run]
 have e0 : runC ⟨Dig.zero, 0⟩ = [] ++ digC Dig.zero ++ [Value.int .i64 ((0 : Nat) : Int)] := rfl
 rw [e0, fill_step [] (digC Dig.zero) [Value.int .i64 ((0 : Nat) : Int)] (digC d) (by rw [digC_length]; rfl) rfl (by rw [digC_length, digC_length]) rfl]
 have e1 : [] ++ digC d ++ [Value.int .i64 ((0 : Nat) : Int)] = digC d ++ [Value.int .i64 ((0 : Nat) : Int)] ++ [] := by simp
 rw [e1, fill_step (digC d) [Value.int .i64 ((0 : Nat) : Int)] [] [Value.int .i64 2] rfl rfl rfl (by rw [digC_length]), Instr.fill]
 simp [runC])
section
variable {n : NN} {fr : Fr} {ty t' : TypeId} {x y : Operand} {w : World}
theorem Y.eql_apiRun {a b : RuD} (hx : ev fr x = some (.agg (runC a).toArray)) (hy : ev fr y = some (.agg (runC b).toArray)) : Yw Tryd.prog n fr (.binOp .eql TRu x y t') ty w (.bool (decide (a = b))) w :=
 Y.bin hx hy (run_eqGuard_agg w _ _ _ _ _ _ guard_run) (by rw [run_eql_struct, eqIn_run 9997]; rfl)
end
set_option maxRecDepth 100000 in
set_option maxHeartbeats 2000000 in
theorem ealive_any (w : World) : Calls Tryd.prog 7 #[] w (Ret fun v w' => v = .bool true ∧ Ext w w') := by
 refine calls_of_CW 68 [0] [] Tryd.func7 rfl rfl rfl (by simp) args0 ?_
 have hE : Ext w w := Chg.refl
 refine CW.sr fun K1 hK1 => ?_
 refine WL.a rfl ?_
 refine WL.nil (hK1 _ _ ?_); try clear hK1
 refine CW.sr fun K2 hK2 => ?_
 refine WL.call Tryd.func18 rfl rfl rfl (fnew_any _) (by simp) ?_; rintro v6 w1 hR1
 obtain ⟨g, rb, ra, gn, rfl, hn1, hn2, hn3, hn4, hT, hx1⟩ := hR1
 have hz1 := hx1.size
 have hE := hE.thenExt hx1
 refine WL.a rfl ?_
 refine WL.nil (hK2 _ _ ?_); try clear hK2
 refine CW.sr fun K3 hK3 => ?_
 refine WL.v (Y.build rfl (build_D1 _)) ?_
 refine as_apiDigest rfl (by simp) de_ fun g2 w2 hx2 hg2 hB2 => ?_
 have hlt2 := hB2.lt; have hz2 := hx2.size
 have hM2 := hB2.mem; have hz2 := hx2.size; have hE := hE.thenExt hx2
 refine WL.nil (hK3 _ _ ?_); try clear hK3
 refine CW.seq fun K4 hK4 => ?_
 refine CW.seq_to (X := List Nn) (fun _ => [(1, .pointer (some ⟨g, 0, none⟩)), (2, .pointer (some ⟨g2, 0, none⟩)), (19, .bool false)]) (fun ns1 w0 => Ext w w0 ∧ FtAt w0 g rb ra (addT ⟨[], Fw.els (newN gn)⟩ D1 aliveOps).ad ns1 ∧ Fw.els ns1 = (addT Tr.new D1 aliveOps).e ∧ Blk w0 g2 36 (digC D1)) ?_ ?_
 ·
  refine CW.region ?_
  refine WL.m rfl ?_
  refine WL.v (Y.eql_fugueTree rfl rfl) ?_
  refine WL.m rfl ?_
  (first | refine WL.casesD (d := 10) rfl ?_ ?_ | refine WL.casesND (d := 10) rfl ?_ ?_ | refine WL.cases (d := 10) rfl ?_ ?_) <;> intro hg10
  ·
   -- t10 = T
   refine WL.o rfl rfl ?_
   refine WL.o rfl rfl ?_
   refine WL.o rfl rfl ?_
   refine WL.o rfl rfl ?_
   refine WL.o rfl rfl ?_
   refine WL.o rfl rfl ?_
   refine WL.o rfl rfl ?_
   refine WL.o rfl rfl ?_
   refine WL.v (Y.pick rfl rfl) ?_
   refine WL.nil ?_
   first | exact ⟨ns1, Fr.ok, hE, hT4, he5, hB2⟩ | (exfalso; simp_all; done)
  ·
   -- t10 = F
   refine WL.g rfl rfl (Y.move rfl) ?_
   refine WL.g rfl rfl (Y.load Tryd.underlying36 rfl hB2.mem (sz_apiDigest _) rfl) ?_
   refine WL.g rfl rfl (Y.build rfl (build_opA _)) ?_
   refine WL.g rfl rfl (Y.build rfl (build_refO _)) ?_
   refine WL.g rfl rfl (Y.build rfl (build_opB _)) ?_
   refine WL.gst rfl rfl (St.buildSlice rfl (bs2_op _ _)) de_ fun v16 w3 hR3 => ?_
   obtain ⟨go, rfl, hgo, hBo, hx3⟩ := hR3
   have hz3 := hx3.size
   have hE := hE.thenExt hx3
   have hB2 := hB2.ext hx3
   have hT3 := (hT.ext hx2).ext hx3
   have hOo : Own w3 62 37 (.slice (some ⟨go, 0, none⟩) 2 2) (((aliveOps).map opC).flatten) := by
    have h9 := Blk.own (k := 37) (m := 2) hBo (by rw [List.length_append, opC_length, opC_length]) (by unfold maxLen; omega)
    simpa [aliveOps] using h9
   have hSo := hOo.sl opC_length de_
   refine WL.gcall rfl rfl Tryd.func19 rfl rfl rfl (fadd_any g rb ra [] (newN gn) D1 _ aliveOps [] _ hT3 treeOk_new hSo (fun _ k hk => by
     simp [Value.ownBlock] at hk
     have := hBo.lt
     exact ⟨by omega, fun h => by have := hT.lt h; omega⟩)) de_ ?_; rintro v17 w4 hR4
   obtain ⟨rfl, ns1, hT4, he4, hc4, _⟩ := hR4
   have hw0 : wrongC ⟨[], Fw.els (newN gn)⟩ D1 aliveOps = 0 := alive_e
   rw [hw0]
   have hz4 := hc4.size
   have hE := hE.step hc4 (fun q hq => by have := hq.ofNew; omega)
   have hB2 := hB2.chg hc4 (hT3.dig_ne hB2)
   have he5 : Fw.els ns1 = (addT Tr.new D1 aliveOps).e := he4
   refine WL.g rfl rfl (Y.neq rfl rfl) ?_
   refine WL.v (Y.pick rfl rfl) ?_
   refine WL.nil ?_
   first | exact ⟨ns1, Fr.ok, hE, hT4, he5, hB2⟩ | (exfalso; simp_all; done)
 rintro ns1 w5 ⟨hE, hT4, he5, hB2⟩
 have hz5 := hE.size
 have hok := treeOk_new.add alive_e
 have hG4 : Fu.Good (Fw.els ns1) := by rw [he5]; exact hok.good
 have hn5 : ns1.length ≤ 400001 := by
  have h1 : (Fw.els ns1).length = ns1.length := List.length_map _
  rw [← h1, he5]; exact hok.few
 have htx : textE (Fw.els ns1) = [97, 98] := by rw [he5]; exact alive_t
 have hop : opsR (Fw.els ns1) [97, 120] = [⟨2, false, ⟨false, D1, 2⟩, 0⟩, ⟨1, true, ⟨false, D1, 2⟩, 120⟩] := by rw [he5]; exact alive_ops
 have hbl : blameE (Fw.els ns1) = [⟨D1, 2⟩] := by rw [he5]; exact alive_blame
 have her : mkErr (textE (Fw.els ns1)) [97, 120] = 0 := by rw [htx]; rfl
 (first | refine cd_ rfl ?_ ?_ | refine ce_ rfl ?_ ?_ | refine cn_ rfl ?_ ?_ | refine cb_ rfl ?_ ?_) <;> intro ht5
 ·
  -- then
  refine CW.sr fun K6 hK6 => ?_
  refine WL.a rfl ?_
  refine WL.nil (hK6 _ _ ?_); try clear hK6
  refine CW.ret ⟨_, rfl, ?_⟩
  exact absurd (by assumption) de_
 refine CW.skip ?_
 refine hK4 _ _ ?_; try clear hK4
 refine CW.sr fun K7 hK7 => ?_
 refine WL.m rfl ?_
 refine WL.call Tryd.func17 rfl rfl rfl (fops_any g rb ra _ ns1 [97, 120] _ hT4 hG4 hn5 de_) (by simp) ?_; rintro v22 w6 hR6
 obtain ⟨u, rfl, hOu, hfu, hx6⟩ := hR6
 rw [her]
 rw [hop] at hOu
 have hz6 := hx6.size
 have hE := hE.thenExt hx6
 have hB2 := hB2.ext hx6
 obtain ⟨oA, om, oc, rfl⟩ := hOu.lens
 have hom := (hOu.len opC_length de_).1
 obtain rfl : om = 2 := by rw [← hom]; rfl
 obtain ⟨oa, hoa, hm0⟩ := (hOu.sl opC_length de_).get (i := 0) (x := ⟨2, false, ⟨false, D1, 2⟩, 0⟩) rfl
 subst hoa
 obtain ⟨oa2, hoa2, hm1⟩ := (hOu.sl opC_length de_).get (i := 1) (x := ⟨1, true, ⟨false, D1, 2⟩, 120⟩) rfl
 cases hoa2
 refine WL.m rfl ?_
 refine WL.v (Y.extract rfl rfl) ?_
 refine WL.v (Y.extract rfl rfl) ?_
 refine WL.a rfl ?_
 refine WL.a rfl ?_
 refine WL.nil (hK7 _ _ ?_); try clear hK7
 refine CW.sr fun K8 hK8 => ?_
 refine WL.m rfl ?_
 refine WL.call Tryd.func20 rfl rfl rfl (fblame_any g rb ra _ ns1 _ (hT4.ext hx6) hG4 hn5) (by simp) ?_; rintro v26 w7 hR7
 obtain ⟨hOb, hfb, hx7⟩ := hR7
 rw [hbl] at hOb
 have hz7 := hx7.size
 have hE := hE.thenExt hx7
 have hB2 := hB2.ext hx7
 have hm0 := hm0.ext hx7
 have hm1 := hm1.ext hx7
 obtain ⟨bA, bm, bc_, rfl⟩ := hOb.lens
 have hbm := (run_cell hOb).1
 obtain rfl : bm = 1 := by rw [← hbm]; rfl
 obtain ⟨ba, hba, hmb⟩ := (hOb.sl runC_length de_).get (i := 0) (x := ⟨D1, 2⟩) rfl
 subst hba
 refine WL.a rfl ?_
 refine WL.nil (hK8 _ _ ?_); try clear hK8
 refine CW.seq fun K9 hK9 => ?_
 refine CW.quiet (fun wq => Ext w7 wq) kr_ kr_ Chg.drew ?_
 refine QL.m rfl ?_
 refine QL.v (fun wq hq => Y.eql rfl rfl) ?_
 refine QL.m rfl ?_
 (first | refine QL.casesD (d := 29) rfl ?_ ?_ | refine QL.casesND (d := 29) rfl ?_ ?_ | refine QL.cases (d := 29) rfl ?_ ?_) <;> intro hg29
 ·
  -- t29 = T
  refine QL.g rfl rfl (fun wq hq => Y.move rfl) ?_
  refine QL.g rfl rfl (fun wq hq => Y.len_slice Tryd.underlying27 rfl) ?_
  refine QL.g rfl rfl (fun wq hq => Y.eql rfl rfl) ?_
  refine QL.v (fun wq hq => Y.pick rfl rfl) ?_
  refine QL.m rfl ?_
  (first | refine QL.casesD (d := 34) rfl ?_ ?_ | refine QL.casesND (d := 34) rfl ?_ ?_ | refine QL.cases (d := 34) rfl ?_ ?_) <;> intro hg34
  ·
   -- t34 = T
   refine QL.g rfl rfl (fun wq hq => Y.move rfl) ?_
   refine QL.g rfl rfl (fun wq hq => Y.indexAddrN (i := 0) Tryd.underlying27 rfl rfl sz0_apiOp om_) ?_
   refine QL.g rfl rfl (fun wq hq => Y.fieldAddr fo_apiOp0 rfl) ?_
   refine QL.g rfl rfl (fun wq hq => Y.load1 Tryd.underlying3 rfl ((hm0.ext hq).op0) rfl) ?_
   refine QL.g rfl rfl (fun wq hq => Y.eql rfl rfl) ?_
   refine QL.v (fun wq hq => Y.pick rfl rfl) ?_
   refine QL.m rfl ?_
   (first | refine QL.casesD (d := 41) rfl ?_ ?_ | refine QL.casesND (d := 41) rfl ?_ ?_ | refine QL.cases (d := 41) rfl ?_ ?_) <;> intro hg41
   ·
    -- t41 = T
    refine QL.g rfl rfl (fun wq hq => Y.move rfl) ?_
    refine QL.g rfl rfl (fun wq hq => Y.indexAddrN (i := 1) Tryd.underlying27 rfl rfl sz0_apiOp om_) ?_
    refine QL.g rfl rfl (fun wq hq => Y.fieldAddr fo_apiOp1 rfl) ?_
    refine QL.g rfl rfl (fun wq hq => Y.load1 Tryd.underlying4 rfl ((hm1.ext hq).op1) rfl) ?_
    refine QL.v (fun wq hq => Y.pick rfl rfl) ?_
    refine QL.m rfl ?_
    (first | refine QL.casesD (d := 47) rfl ?_ ?_ | refine QL.casesND (d := 47) rfl ?_ ?_ | refine QL.cases (d := 47) rfl ?_ ?_) <;> intro hg47
    ·
     -- t47 = T
     refine QL.g rfl rfl (fun wq hq => Y.move rfl) ?_
     refine QL.g rfl rfl (fun wq hq => Y.indexAddrN (i := 1) Tryd.underlying27 rfl rfl sz0_apiOp om_) ?_
     refine QL.g rfl rfl (fun wq hq => Y.fieldAddr fo_apiOp2 rfl) ?_
     refine QL.g rfl rfl (fun wq hq => Y.fieldAddr fo_apiRef2 rfl) ?_
     refine QL.g rfl rfl (fun wq hq => Y.load1 Tryd.underlying3 rfl ((hm1.ext hq).op2.ref2) rfl) ?_
     refine QL.g rfl rfl (fun wq hq => Y.eql rfl rfl) ?_
     refine QL.v (fun wq hq => Y.pick rfl rfl) ?_
     refine QL.m rfl ?_
     (first | refine QL.casesD (d := 55) rfl ?_ ?_ | refine QL.casesND (d := 55) rfl ?_ ?_ | refine QL.cases (d := 55) rfl ?_ ?_) <;> intro hg55
     ·
      -- t55 = T
      refine QL.g rfl rfl (fun wq hq => Y.move rfl) ?_
      refine QL.g rfl rfl (fun wq hq => Y.len_slice Tryd.underlying65 rfl) ?_
      refine QL.g rfl rfl (fun wq hq => Y.eql rfl rfl) ?_
      refine QL.v (fun wq hq => Y.pick rfl rfl) ?_
      refine QL.m rfl ?_
      (first | refine QL.casesD (d := 60) rfl ?_ ?_ | refine QL.casesND (d := 60) rfl ?_ ?_ | refine QL.cases (d := 60) rfl ?_ ?_) <;> intro hg60
      ·
       -- t60 = T
       refine QL.g rfl rfl (fun wq hq => Y.move rfl) ?_
       refine QL.g rfl rfl (fun wq hq => Y.indexAddrN (i := 0) Tryd.underlying65 rfl rfl sz0_apiRun om_) ?_
       refine QL.g rfl rfl (fun wq hq => Y.load Tryd.underlying68 rfl (hmb.ext hq) (sz_apiRun _) rfl) ?_
       refine QL.g rfl rfl (fun wq hq => Y.load Tryd.underlying36 rfl (hB2.ext hq).mem (sz_apiDigest _) rfl) ?_
       refine QL.g rfl rfl (fun wq hq => Y.build rfl (build_run2 _ _)) ?_
       refine QL.g rfl rfl (fun wq hq => Y.eql_apiRun rfl rfl) ?_
       refine QL.v (fun wq hq => Y.pick rfl rfl) ?_
       refine QL.a rfl ?_
       refine QL.nil fun w8 hx8 => ?_
       have hz8 := hx8.size
       have hE := hE.thenExt hx8
       have hB2 := hB2.ext hx8
       refine hK9 _ _ ?_; try clear hK9
       refine CW.ret ⟨_, rfl, ?_⟩
       exact ⟨by simp, hE⟩
      ·
       -- t60 = F
       refine QL.o rfl rfl ?_
       refine QL.o rfl rfl ?_
       refine QL.o rfl rfl ?_
       refine QL.o rfl rfl ?_
       refine QL.o rfl rfl ?_
       refine QL.o rfl rfl ?_
       refine QL.v (fun wq hq => Y.pick rfl rfl) ?_
       refine QL.a rfl ?_
       refine QL.nil fun w9 hx9 => ?_
       have hz9 := hx9.size
       have hE := hE.thenExt hx9
       have hB2 := hB2.ext hx9
       refine hK9 _ _ ?_; try clear hK9
       refine CW.ret ⟨_, rfl, ?_⟩
       first | exact absurd rfl (by assumption) | exact absurd de_ (by assumption) | (simp_all; done)
     ·
      -- t55 = F
      refine QL.o rfl rfl ?_
      refine QL.o rfl rfl ?_
      refine QL.o rfl rfl ?_
      refine QL.v (fun wq hq => Y.pick rfl rfl) ?_
      refine QL.m rfl ?_
      refine QL.o rfl rfl ?_
      refine QL.o rfl rfl ?_
      refine QL.o rfl rfl ?_
      refine QL.o rfl rfl ?_
      refine QL.o rfl rfl ?_
      refine QL.o rfl rfl ?_
      refine QL.v (fun wq hq => Y.pick rfl rfl) ?_
      refine QL.a rfl ?_
      refine QL.nil fun w10 hx10 => ?_
      have hz10 := hx10.size
      have hE := hE.thenExt hx10
      have hB2 := hB2.ext hx10
      refine hK9 _ _ ?_; try clear hK9
      refine CW.ret ⟨_, rfl, ?_⟩
      first | exact absurd rfl (by assumption) | exact absurd de_ (by assumption) | (simp_all; done)
    ·
     -- t47 = F
     refine QL.o rfl rfl ?_
     refine QL.o rfl rfl ?_
     refine QL.o rfl rfl ?_
     refine QL.o rfl rfl ?_
     refine QL.o rfl rfl ?_
     refine QL.o rfl rfl ?_
     refine QL.v (fun wq hq => Y.pick rfl rfl) ?_
     refine QL.m rfl ?_
     refine QL.o rfl rfl ?_
     refine QL.o rfl rfl ?_
     refine QL.o rfl rfl ?_
     refine QL.v (fun wq hq => Y.pick rfl rfl) ?_
     refine QL.m rfl ?_
     refine QL.o rfl rfl ?_
     refine QL.o rfl rfl ?_
     refine QL.o rfl rfl ?_
     refine QL.o rfl rfl ?_
     refine QL.o rfl rfl ?_
     refine QL.o rfl rfl ?_
     refine QL.v (fun wq hq => Y.pick rfl rfl) ?_
     refine QL.a rfl ?_
     refine QL.nil fun w11 hx11 => ?_
     have hz11 := hx11.size
     have hE := hE.thenExt hx11
     have hB2 := hB2.ext hx11
     refine hK9 _ _ ?_; try clear hK9
     refine CW.ret ⟨_, rfl, ?_⟩
     first | exact absurd rfl (by assumption) | exact absurd de_ (by assumption) | (simp_all; done)
   ·
    -- t41 = F
    refine QL.o rfl rfl ?_
    refine QL.o rfl rfl ?_
    refine QL.o rfl rfl ?_
    refine QL.o rfl rfl ?_
    refine QL.v (fun wq hq => Y.pick rfl rfl) ?_
    refine QL.m rfl ?_
    refine QL.o rfl rfl ?_
    refine QL.o rfl rfl ?_
    refine QL.o rfl rfl ?_
    refine QL.o rfl rfl ?_
    refine QL.o rfl rfl ?_
    refine QL.o rfl rfl ?_
    refine QL.v (fun wq hq => Y.pick rfl rfl) ?_
    refine QL.m rfl ?_
    refine QL.o rfl rfl ?_
    refine QL.o rfl rfl ?_
    refine QL.o rfl rfl ?_
    refine QL.v (fun wq hq => Y.pick rfl rfl) ?_
    refine QL.m rfl ?_
    refine QL.o rfl rfl ?_
    refine QL.o rfl rfl ?_
    refine QL.o rfl rfl ?_
    refine QL.o rfl rfl ?_
    refine QL.o rfl rfl ?_
    refine QL.o rfl rfl ?_
    refine QL.v (fun wq hq => Y.pick rfl rfl) ?_
    refine QL.a rfl ?_
    refine QL.nil fun w12 hx12 => ?_
    have hz12 := hx12.size
    have hE := hE.thenExt hx12
    have hB2 := hB2.ext hx12
    refine hK9 _ _ ?_; try clear hK9
    refine CW.ret ⟨_, rfl, ?_⟩
    first | exact absurd rfl (by assumption) | exact absurd de_ (by assumption) | (simp_all; done)
  ·
   -- t34 = F
   refine QL.o rfl rfl ?_
   refine QL.o rfl rfl ?_
   refine QL.o rfl rfl ?_
   refine QL.o rfl rfl ?_
   refine QL.o rfl rfl ?_
   refine QL.v (fun wq hq => Y.pick rfl rfl) ?_
   refine QL.m rfl ?_
   refine QL.o rfl rfl ?_
   refine QL.o rfl rfl ?_
   refine QL.o rfl rfl ?_
   refine QL.o rfl rfl ?_
   refine QL.v (fun wq hq => Y.pick rfl rfl) ?_
   refine QL.m rfl ?_
   refine QL.o rfl rfl ?_
   refine QL.o rfl rfl ?_
   refine QL.o rfl rfl ?_
   refine QL.o rfl rfl ?_
   refine QL.o rfl rfl ?_
   refine QL.o rfl rfl ?_
   refine QL.v (fun wq hq => Y.pick rfl rfl) ?_
   refine QL.m rfl ?_
   refine QL.o rfl rfl ?_
   refine QL.o rfl rfl ?_
   refine QL.o rfl rfl ?_
   refine QL.v (fun wq hq => Y.pick rfl rfl) ?_
   refine QL.m rfl ?_
   refine QL.o rfl rfl ?_
   refine QL.o rfl rfl ?_
   refine QL.o rfl rfl ?_
   refine QL.o rfl rfl ?_
   refine QL.o rfl rfl ?_
   refine QL.o rfl rfl ?_
   refine QL.v (fun wq hq => Y.pick rfl rfl) ?_
   refine QL.a rfl ?_
   refine QL.nil fun w13 hx13 => ?_
   have hz13 := hx13.size
   have hE := hE.thenExt hx13
   have hB2 := hB2.ext hx13
   refine hK9 _ _ ?_; try clear hK9
   refine CW.ret ⟨_, rfl, ?_⟩
   first | exact absurd rfl (by assumption) | exact absurd de_ (by assumption) | (simp_all; done)
 ·
  -- t29 = F
  refine QL.o rfl rfl ?_
  refine QL.o rfl rfl ?_
  refine QL.o rfl rfl ?_
  refine QL.v (fun wq hq => Y.pick rfl rfl) ?_
  refine QL.m rfl ?_
  refine QL.o rfl rfl ?_
  refine QL.o rfl rfl ?_
  refine QL.o rfl rfl ?_
  refine QL.o rfl rfl ?_
  refine QL.o rfl rfl ?_
  refine QL.v (fun wq hq => Y.pick rfl rfl) ?_
  refine QL.m rfl ?_
  refine QL.o rfl rfl ?_
  refine QL.o rfl rfl ?_
  refine QL.o rfl rfl ?_
  refine QL.o rfl rfl ?_
  refine QL.v (fun wq hq => Y.pick rfl rfl) ?_
  refine QL.m rfl ?_
  refine QL.o rfl rfl ?_
  refine QL.o rfl rfl ?_
  refine QL.o rfl rfl ?_
  refine QL.o rfl rfl ?_
  refine QL.o rfl rfl ?_
  refine QL.o rfl rfl ?_
  refine QL.v (fun wq hq => Y.pick rfl rfl) ?_
  refine QL.m rfl ?_
  refine QL.o rfl rfl ?_
  refine QL.o rfl rfl ?_
  refine QL.o rfl rfl ?_
  refine QL.v (fun wq hq => Y.pick rfl rfl) ?_
  refine QL.m rfl ?_
  refine QL.o rfl rfl ?_
  refine QL.o rfl rfl ?_
  refine QL.o rfl rfl ?_
  refine QL.o rfl rfl ?_
  refine QL.o rfl rfl ?_
  refine QL.o rfl rfl ?_
  refine QL.v (fun wq hq => Y.pick rfl rfl) ?_
  refine QL.a rfl ?_
  refine QL.nil fun w14 hx14 => ?_
  have hz14 := hx14.size
  have hE := hE.thenExt hx14
  have hB2 := hB2.ext hx14
  refine hK9 _ _ ?_; try clear hK9
  refine CW.ret ⟨_, rfl, ?_⟩
  first | exact absurd rfl (by assumption) | exact absurd de_ (by assumption) | (simp_all; done)
end Go.Proofs.YtmehkigmnpjcjaaDoor
