/- edit.Ops, walked, for a tree that was made. No condition but bounds. -/
import Derived.Test.YtmndofgagngcgaaJi
import Derived.Test.YtmndofgagngcgaaG9
set_option linter.unusedSimpArgs false
set_option linter.unusedVariables false
namespace Go.Fu
open Go.Pl Go.Fw
/-- The operations, or nothing. -/
def opsR (e : List El) (b : List UInt8) : List OpD := if mkErr (textE e) b = 0 then opsE e b else []
theorem mkE_ok {a b : List UInt8} (h : mkErr a b = 0) : mkE a b = scriptE a b ∧ a.length ≤ 1000 ∧ b.length ≤ 1000 := by
  unfold mkErr at h
  split at h
  · cases h
  · rename_i hc; exact ⟨if_neg hc, by omega, by omega⟩
theorem mkE_bad {a b : List UInt8} (h : mkErr a b ≠ 0) : mkE a b = [] := by
  unfold mkErr at h
  split at h
  · rename_i hc; exact if_pos hc
  · exact absurd rfl h
theorem opsAt_cost {e : List El} {b : List UInt8} {k : Nat} {x : EdD} (h : (scriptE (textE e) b)[k]? = some x) : (opsAt e b k).out.length + x.cost ≤ (textE e).length + b.length := by
  have h1 := (opsAt_inv e b k).len
  have h2 : costE (scriptE (textE e) b) = costE ((scriptE (textE e) b).take (k + 1)) + costE ((scriptE (textE e) b).drop (k + 1)) := by rw [← costE_app, List.take_append_drop]
  rw [script_cost, Go.Pl.take_succ h, costE_app] at h2
  have h3 : costE [x] = x.cost := by simp [costE]
  have h4 := cst_le (textE e) b
  omega
end Go.Fu
namespace Go.Proofs.Ytmndofgagngcgaa
open Go.RowKit Go.Fw Go.Fu Go.Pl
abbrev TDo : TypeId := 75
abbrev UDF := Try.underlying72
def doesC : List Value := [.nilFunc, .func (.func 29) #[] #[], .func (.func 30) #[] #[], .func (.func 31) #[] #[]]
theorem build_does (w : World) : (Instr.build TDo [(1, Value.func (.func 29) #[] #[]), (2, Value.func (.func 30) #[] #[]), (3, Value.func (.func 31) #[] #[])].toArray).run Try.prog w = .ok (.agg doesC.toArray) w := run_build w _ _ _ (by kernel_rfl)
theorem one_does : ∀ u ∈ doesC, u.oneCell' = true := by
  intro u hu
  simp only [doesC, List.mem_cons, List.not_mem_nil, or_false] at hu
  rcases hu with rfl | rfl | rfl | rfl <;> rfl
theorem info_does : ∃ i : TypeInfo, Try.prog.info? TDo = some i ∧ i.zero = some (.agg [Value.nilFunc, .nilFunc, .nilFunc, .nilFunc].toArray) ∧ i.size = 4 := by
  have h : (Try.prog.info? TDo).map (fun i => (i.zero, i.size)) = some (some (.agg [Value.nilFunc, .nilFunc, .nilFunc, .nilFunc].toArray), 4) := by kernel_rfl
  obtain ⟨i, hi, h⟩ := Option.map_eq_some_iff.1 h
  injection h with h1 h2
  exact ⟨i, hi, h1, h2⟩
theorem sz0_funceditmakerapiEdit : (Try.prog.info? 72).map (·.size) = some 1 := by kernel_rfl
theorem as_4funceditmakerapiEdit {n : NN} {Φ : Exit → Fr → World → Prop} {fr : Fr} {w : World} {ops : Array Oper} {rest : List Oper} {d : Nat} {x : Operand} {ty ty' : TypeId} {pos pos' : String} {aft aft' : Array Edge}
    (hx : ev fr x = some (.agg doesC.toArray)) (hxd : x ≠ .tmp d) (hd : d < n.1)
    (h : ∀ g w', Ext w w' → w.heap.size ≤ g → Blk w' g TDo doesC → WL Try.prog ops n Φ rest ((d, .pointer (some ⟨g, 0, none⟩)) :: fr) w') :
    WL Try.prog ops n Φ (⟨some d, .alloc TDo, ty, pos, aft, none⟩ :: ⟨none, .store TDo (.tmp d) x, ty', pos', aft', none⟩ :: rest) fr w := by
  obtain ⟨i, hi, hz, hs⟩ := info_does
  exact WL.allocStore (cs := doesC) (zs := [Value.nilFunc, .nilFunc, .nilFunc, .nilFunc]) hi hz rfl hs rfl hx hxd rfl one_does hd h
theorem info_mkr : ∃ i : TypeInfo, Try.prog.info? TM = some i ∧ i.zero = some (.agg (mkrC (.pointer none) (.slice none 0 0) 0 0 (.slice none 0 0)).toArray) ∧ i.size = 5 := by
  have h : (Try.prog.info? TM).map (fun i => (i.zero, i.size)) = some (some (.agg (mkrC (.pointer none) (.slice none 0 0) 0 0 (.slice none 0 0)).toArray), 5) := by kernel_rfl
  obtain ⟨i, hi, h⟩ := Option.map_eq_some_iff.1 h
  injection h with h1 h2
  exact ⟨i, hi, h1, h2⟩
theorem as_editmaker {n : NN} {Φ : Exit → Fr → World → Prop} {fr : Fr} {w : World} {ops : Array Oper} {rest : List Oper} {d : Nat} {x : Operand} {ty ty' : TypeId} {pos pos' : String} {aft aft' : Array Edge} {t : Addr}
    (hx : ev fr x = some (.agg (mkrC (.pointer (some t)) (.slice none 0 0) 0 0 (.slice none 0 0)).toArray)) (hxd : x ≠ .tmp d) (hd : d < n.1)
    (h : ∀ g w', Ext w w' → w.heap.size ≤ g → Blk w' g TM (mkrC (.pointer (some t)) (.slice none 0 0) 0 0 (.slice none 0 0)) → WL Try.prog ops n Φ rest ((d, .pointer (some ⟨g, 0, none⟩)) :: fr) w') :
    WL Try.prog ops n Φ (⟨some d, .alloc TM, ty, pos, aft, none⟩ :: ⟨none, .store TM (.tmp d) x, ty', pos', aft', none⟩ :: rest) fr w := by
  obtain ⟨i, hi, hz, hs⟩ := info_mkr
  exact WL.allocStore (cs := mkrC (.pointer (some t)) (.slice none 0 0) 0 0 (.slice none 0 0)) (zs := mkrC (.pointer none) (.slice none 0 0) 0 0 (.slice none 0 0)) hi hz rfl hs rfl hx hxd rfl (by
    intro u hu
    simp only [mkrC, List.mem_cons, List.not_mem_nil, or_false] at hu
    rcases hu with rfl | rfl | rfl | rfl | rfl <;> rfl) hd h
theorem build_mkr (t : Addr) (w : World) : (Instr.build TM [(0, Value.pointer (some t))].toArray).run Try.prog w = .ok (.agg (mkrC (.pointer (some t)) (.slice none 0 0) 0 0 (.slice none 0 0)).toArray) w := run_build w _ _ _ (by kernel_rfl)
theorem info_ed : ∃ i : TypeInfo, Try.prog.info? TE = some i ∧ i.zero = some (.agg (edC ⟨0, 0, []⟩).toArray) ∧ i.size = 3 := by
  have h : (Try.prog.info? TE).map (fun i => (i.zero, i.size)) = some (some (.agg (edC ⟨0, 0, []⟩).toArray), 3) := by kernel_rfl
  obtain ⟨i, hi, h⟩ := Option.map_eq_some_iff.1 h
  injection h with h1 h2
  exact ⟨i, hi, h1, h2⟩
theorem as_apiEdit {n : NN} {Φ : Exit → Fr → World → Prop} {fr : Fr} {w : World} {ops : Array Oper} {rest : List Oper} {d : Nat} {x : Operand} {ty ty' : TypeId} {pos pos' : String} {aft aft' : Array Edge} {v : EdD}
    (hx : ev fr x = some (.agg (edC v).toArray)) (hxd : x ≠ .tmp d) (hd : d < n.1)
    (h : ∀ g w', Ext w w' → w.heap.size ≤ g → Blk w' g TE (edC v) → WL Try.prog ops n Φ rest ((d, .pointer (some ⟨g, 0, none⟩)) :: fr) w') :
    WL Try.prog ops n Φ (⟨some d, .alloc TE, ty, pos, aft, none⟩ :: ⟨none, .store TE (.tmp d) x, ty', pos', aft', none⟩ :: rest) fr w := by
  obtain ⟨i, hi, hz, hs⟩ := info_ed
  exact WL.allocStore (cs := edC v) (zs := edC ⟨0, 0, []⟩) hi hz rfl hs rfl hx hxd rfl one_edC hd h
/-- Whatever an edit's kind, the function that is called does what the edit says. -/
theorem does_step (tg rb ra : Nat) (ad : List Dig) (ns : List Nn) (hG : Fu.Good (Fw.els ns)) (hn : ns.length ≤ 400001) (b : List UInt8) (hok : mkErr (textE (Fw.els ns)) b = 0) {k : Nat} {ed : EdD} (hx : (scriptE (textE (Fw.els ns)) b)[k]? = some ed) :
    ∃ (f : FuncId) (fn : Func), ed.kind < 4 ∧ doesC[ed.kind]? = some (.func (.func f) #[] #[]) ∧ Try.prog.funcs[f]? = some fn ∧ fn.body.isNone = false ∧ (fn.name == "runtime.NumGoroutine") = false ∧ ∀ (W : World) (g : Nat) (rv ov : Value), FtAt W tg rb ra ad ns →
      MkrAt W g (.pointer (some ⟨tg, 0, none⟩)) rv ov (opsAt (Fw.els ns) b k).at_ (opsAt (Fw.els ns) b k).kept ((seenE (Fw.els ns)).map (nm (Fw.els ns))) (opsAt (Fw.els ns) b k).out →
      Calls Try.prog f #[.pointer (some ⟨g, 0, none⟩), .agg (edC ed).toArray] W (Ret fun _ W' => ∃ ov', MkrAt W' g (.pointer (some ⟨tg, 0, none⟩)) rv ov' (opsAt (Fw.els ns) b (k + 1)).at_ (opsAt (Fw.els ns) b (k + 1)).kept ((seenE (Fw.els ns)).map (nm (Fw.els ns))) (opsAt (Fw.els ns) b (k + 1)).out ∧
        Chg (fun q => q = g ∨ ov.ownBlock = some q) W W' ∧ (∀ q, ov'.ownBlock = some q → ov.ownBlock = some q ∨ W.heap.size ≤ q)) := by
  obtain ⟨_, hl1, hl2⟩ := mkE_ok hok
  have hsl : (seenE (Fw.els ns)).length ≤ 1000 := by simpa [textE] using hl1
  have hov := opsAt_over hx
  have hco := opsAt_cost hx
  have hmay := script_may _ _ ed (List.mem_of_getElem? hx)
  have hsu := opsAt_succ hx
  rcases hmay with ⟨hk | hk, hpos, ht⟩ | ⟨hk, hn0, ht⟩
  · have ho : ed.over = ed.n := by unfold EdD.over; rw [if_neg (by omega)]
    refine ⟨_, _, by omega, by rw [hk]; rfl, Try.func29, rfl, rfl, fun W g rv ov _ hA => ?_⟩
    refine (mkeep_any g _ rv ov _ _ _ _ ed W hA (by omega) (by omega)).mono fun e W' h => ?_
    cases e with
    | returned v =>
      obtain ⟨h1, h2⟩ := h
      have hs2 : opsAt (Fw.els ns) b (k + 1) = ⟨(opsAt (Fw.els ns) b k).at_ + ed.n, (opsAt (Fw.els ns) b k).at_ + ed.n, (opsAt (Fw.els ns) b k).out⟩ := by rw [hsu, edOps, if_pos hk]
      rw [hs2]
      exact ⟨ov, h1, h2.mono fun q _ h => .inl h, fun q hq => .inl hq⟩
    | _ => exact h.elim
  · have ho : ed.over = ed.n := by unfold EdD.over; rw [if_neg (by omega)]
    refine ⟨_, _, by omega, by rw [hk]; rfl, Try.func30, rfl, rfl, fun W g rv ov _ hA => ?_⟩
    refine (mcut_any g _ rv ov _ _ _ _ ed W hA (by rw [List.length_map]; omega) (by rw [List.length_map]; omega) (by omega)).mono fun e W' h => ?_
    cases e with
    | returned v =>
      obtain ⟨ov', h1, h2, h3⟩ := h
      have hs2 : opsAt (Fw.els ns) b (k + 1) = ⟨(opsAt (Fw.els ns) b k).at_ + ed.n, (opsAt (Fw.els ns) b k).kept, (opsAt (Fw.els ns) b k).out ++ cutL ((seenE (Fw.els ns)).map (nm (Fw.els ns))) (opsAt (Fw.els ns) b k).at_ ed.n⟩ := by
        rw [hsu, edOps, if_neg (by omega), if_pos hk]
        simp [cutOps, cutL, ← List.map_drop, ← List.map_take, Function.comp_def]
      rw [hs2]
      exact ⟨ov', h1, h2, h3⟩
    | _ => exact h.elim
  · have hc : ed.cost = ed.text.length := by unfold EdD.cost; rw [if_neg (by omega)]; omega
    refine ⟨_, _, by omega, by rw [hk]; rfl, Try.func31, rfl, rfl, fun W g rv ov hT hA => ?_⟩
    refine (mput_any tg rb ra ad ns g _ rv ov _ _ _ _ ed W rfl hT hG hn hA (by omega) (by omega)).mono fun e W' h => ?_
    cases e with
    | returned v =>
      obtain ⟨ov', h1, h2, h3⟩ := h
      have hs2 : opsAt (Fw.els ns) b (k + 1) = ⟨(opsAt (Fw.els ns) b k).at_, (opsAt (Fw.els ns) b k).kept, (opsAt (Fw.els ns) b k).out ++ insOps (gapE (Fw.els ns) ((opsAt (Fw.els ns) b k).kept : Int)) (opsAt (Fw.els ns) b k).out.length ed.text⟩ := by
        rw [hsu, edOps, if_neg (by omega), if_neg (by omega)]
      rw [hs2]
      exact ⟨ov', h1, h2, h3⟩
    | _ => exact h.elim

set_option maxRecDepth 100000 in
set_option maxHeartbeats 2000000 in
theorem fops_any (g rb ra : Nat) (ad : List Dig) (ns : List Nn) (b : List UInt8) (w : World) (hT : FtAt w g rb ra ad ns) (hG : Fu.Good (Fw.els ns)) (hn : ns.length ≤ 400001) (hb : b.length < 4611686018427387904) : Calls Try.prog 11 #[.pointer (some ⟨g, 0, none⟩), .string (bs b)] w (Ret fun v w' => ∃ u, v = .tuple #[u, .int .i64 (mkErr (textE (Fw.els ns)) b : Int)] ∧ Own w' TOp 37 u (flatO (opsR (Fw.els ns) b)) ∧ (∀ q, u.ownBlock = some q → w.heap.size ≤ q) ∧ Ext w w') := by
  have hlv : (seenE (Fw.els ns)).length ≤ 400001 := by
    have h1 := List.countP_le_length (p := fun x : El => !x.gone) (l := Fw.els ns)
    rw [hG.seen_length]; rw [List.length_map] at h1; exact Nat.le_trans h1 hn
  have htl : (textE (Fw.els ns)).length = (seenE (Fw.els ns)).length := by simp [textE]
  obtain ⟨er, her⟩ : ∃ er : Nat → List Value, er = fun q => refC (nm (Fw.els ns) q) := ⟨_, rfl⟩
  have herl : ∀ q, (er q).length = 34 := fun q => by rw [her]; exact refC_length _
  have hTl := fun q (hq : Fp g rb ra ns q) => hT.lt hq
  refine calls_of_CN 54 [4, 5] [(0, .pointer (some ⟨g, 0, none⟩)), (1, .string (bs b))] Try.func11 rfl rfl rfl (by simp) args2 ?_
  have hE : Ext w w := Chg.refl
  refine CN.seq fun K1 hK1 => ?_
  refine CN.of_CW ?_
  refine CW.region ?_
  refine WL.val (Y.assign rfl) (by first | decide | exact Nat.le_of_ble_eq_true rfl) ?_
  refine WL.val (Y.assign rfl) (by first | decide | exact Nat.le_of_ble_eq_true rfl) ?_
  refine WL.nil ?_
  refine hK1 _ _ _ ?_; try clear hK1 K1
  refine CN.seq fun K2 hK2 => ?_
  refine CN.seq fun K3 hK3 => ?_
  refine CN.of_CW ?_
  refine CW.region ?_
  refine WL.val (Y.move rfl) (by first | decide | exact Nat.le_of_ble_eq_true rfl) ?_
  refine WL.call Try.func22 rfl rfl rfl (fcopy_any g rb ra ad ns _ hT hG hn) (by simp) ?_; rintro v14 w1 hR1
  obtain ⟨gc, rbc, rac, nsc, rfl, _, _, _, hx1⟩ := hR1
  have hz1 := hx1.size
  have hE := hE.thenExt hx1
  refine WL.val (Y.eql_fugueTree rfl rfl) (by first | decide | exact Nat.le_of_ble_eq_true rfl) ?_
  refine WL.nil ?_
  refine hK3 _ _ _ ?_; try clear hK3 K3
  first | refine CN.condD rfl (fun ht4 => ?_) (fun ht4 => ?_) | refine CN.condND rfl (fun ht4 => ?_) (fun ht4 => ?_) | refine CN.condN rfl (fun ht4 => ?_) (fun ht4 => ?_) | refine CN.cond rfl (fun ht4 => ?_) (fun ht4 => ?_)
  · -- then
    refine CN.seq fun K5 hK5 => ?_
    refine CN.of_CW ?_
    refine CW.region ?_
    refine WL.val (Y.assign rfl) (by first | decide | exact Nat.le_of_ble_eq_true rfl) ?_
    refine WL.val (Y.assign rfl) (by first | decide | exact Nat.le_of_ble_eq_true rfl) ?_
    refine WL.nil ?_
    refine hK5 _ _ _ ?_; try clear hK5 K5
    refine CN.ret ?_
    exact absurd ht4 (by simp)
  refine CN.skip ?_
  refine hK2 _ _ _ ?_; try clear hK2 K2
  refine CN.seq fun K6 hK6 => ?_
  refine CN.of_CW ?_
  refine CW.region ?_
  refine WL.val (Y.move rfl) (by first | decide | exact Nat.le_of_ble_eq_true rfl) ?_
  refine WL.call Try.func14 rfl rfl rfl (ftext_any g rb ra ad ns _ (hT.ext hE) hG hn) (by simp) ?_; rintro v w2 ⟨rfl, hx2⟩; have hz2 := hx2.size; have hE := hE.thenExt hx2
  refine WL.val (Y.move rfl) (by first | decide | exact Nat.le_of_ble_eq_true rfl) ?_
  refine WL.call Try.func23 rfl rfl rfl (fmake_any (textE (Fw.els ns)) b _ (by omega) hb) (by simp) ?_; rintro v20 w3 hR3
  obtain ⟨lv, rfl, hO3, hf3, hx3⟩ := hR3
  have hz3 := hx3.size
  have hE := hE.thenExt hx3
  refine WL.val (Y.move rfl) (by first | decide | exact Nat.le_of_ble_eq_true rfl) ?_
  refine WL.val (Y.extract rfl rfl) (by first | decide | exact Nat.le_of_ble_eq_true rfl) ?_
  refine WL.val (Y.extract rfl rfl) (by first | decide | exact Nat.le_of_ble_eq_true rfl) ?_
  refine WL.val (Y.assign rfl) (by first | decide | exact Nat.le_of_ble_eq_true rfl) ?_
  refine WL.val (Y.assign rfl) (by first | decide | exact Nat.le_of_ble_eq_true rfl) ?_
  refine WL.nil ?_
  refine hK6 _ _ _ ?_; try clear hK6 K6
  refine CN.seq fun K7 hK7 => ?_
  refine CN.seq fun K8 hK8 => ?_
  refine CN.of_CW ?_
  refine CW.region ?_
  refine WL.val (Y.move rfl) (by first | decide | exact Nat.le_of_ble_eq_true rfl) ?_
  refine WL.val (Y.neq rfl rfl) (by first | decide | exact Nat.le_of_ble_eq_true rfl) ?_
  refine WL.nil ?_
  refine hK8 _ _ _ ?_; try clear hK8 K8
  first | refine CN.condD rfl (fun ht9 => ?_) (fun ht9 => ?_) | refine CN.condND rfl (fun ht9 => ?_) (fun ht9 => ?_) | refine CN.condN rfl (fun ht9 => ?_) (fun ht9 => ?_) | refine CN.cond rfl (fun ht9 => ?_) (fun ht9 => ?_)
  · -- then
    refine CN.seq fun K10 hK10 => ?_
    refine CN.of_CW ?_
    refine CW.region ?_
    refine WL.val (Y.move rfl) (by first | decide | exact Nat.le_of_ble_eq_true rfl) ?_
    refine WL.val (Y.assign rfl) (by first | decide | exact Nat.le_of_ble_eq_true rfl) ?_
    refine WL.val (Y.assign rfl) (by first | decide | exact Nat.le_of_ble_eq_true rfl) ?_
    refine WL.nil ?_
    refine hK10 _ _ _ ?_; try clear hK10 K10
    refine CN.ret ?_
    have h0 : mkErr (textE (Fw.els ns)) b ≠ 0 := fun h => ht9 (by rw [h]; rfl)
    exact ⟨[], rfl, by simp, (fun D hD => by simp at hD), _, rfl, fun w_ hc => ⟨_, rfl, (by rw [opsR, if_neg h0]; exact Own.nil), (fun q h => by simp [Value.ownBlock] at h), hE.step hc (fun k h => by simp at h)⟩⟩
  refine CN.skip ?_
  refine hK7 _ _ _ ?_; try clear hK7 K7
  have hok : mkErr (textE (Fw.els ns)) b = 0 := by omega
  obtain ⟨hmk, hl1, hl2⟩ := mkE_ok hok
  rw [hmk] at hO3
  obtain ⟨lA, lm, lc, rfl⟩ := hO3.lens
  have hlm := (hO3.len edC_length (by decide)).1
  have hll : lm ≤ 2000 := by have := script_length (textE (Fw.els ns)) b; omega
  have hlt3 := hO3.lt
  refine CN.seq fun K11 hK11 => ?_
  refine CN.of_CW ?_
  refine CW.region ?_
  refine WL.val (Y.build rfl (build_does _)) (by first | decide | exact Nat.le_of_ble_eq_true rfl) ?_
  refine as_4funceditmakerapiEdit rfl (by simp) (by first | decide | exact Nat.le_of_ble_eq_true rfl) fun g8 w4 hx4 hg8 hB8 => ?_
  have hlt8 := hB8.lt; have hz4 := hx4.size
  have hM8 := hB8.mem; have hz4 := hx4.size; have hE := hE.thenExt hx4
  refine WL.nil ?_
  refine hK11 _ _ _ ?_; try clear hK11 K11
  refine CN.seq fun K12 hK12 => ?_
  refine CN.of_CW ?_
  refine CW.region ?_
  refine WL.val (Y.move rfl) (by first | decide | exact Nat.le_of_ble_eq_true rfl) ?_
  refine WL.val (Y.build rfl (build_mkr _ _)) (by first | decide | exact Nat.le_of_ble_eq_true rfl) ?_
  refine as_editmaker rfl (by simp) (by first | decide | exact Nat.le_of_ble_eq_true rfl) fun g9 w5 hx5 hg9 hB9 => ?_
  have hlt9 := hB9.lt; have hz5 := hx5.size
  have hM9 := hB9.mem; have hz5 := hx5.size; have hE := hE.thenExt hx5; have hB8 := hB8.ext hx5
  refine WL.nil ?_
  refine hK12 _ _ _ ?_; try clear hK12 K12
  refine CN.seq fun K13 hK13 => ?_
  refine CN.seq fun K14 hK14 => ?_
  refine CN.of_CW ?_
  refine CW.region ?_
  refine WL.val (Y.move rfl) (by first | decide | exact Nat.le_of_ble_eq_true rfl) ?_
  refine WL.call Try.func32 rfl rfl rfl (fall_any ⟨g, 0, none⟩ _) (by simp) ?_; rintro v30 w6 hR6
  obtain ⟨b6, rfl, hgb, hBb, hx6⟩ := hR6
  have hz6 := hx6.size
  have hE := hE.thenExt hx6
  have hB8 := hB8.ext hx6
  have hB9 := hB9.ext hx6
  have hT6 := hT.ext hE
  have hE6 := hE
  have hO6 := ((hO3.ext hx4).ext hx5).ext hx6
  refine WL.nil ?_
  refine hK14 _ _ _ ?_; try clear hK14 K14
  refine CN.block ?_
  refine CN.rangeN (rfl) Try.func51 rfl rfl (fall1_any g rb ra ad ns b6 _ hT6 hG hn hBb) (fun _ => rfl) (by first | decide | exact Nat.le_of_ble_eq_true rfl) (fun _ h => h.elim) (fun w1 s V hz hs i hk => by have := hs.1; have := hk.1; omega) (fun s i V => w6.heap.size + 2 ≤ s.lo ∧ s.lo ≤ s.hi ∧ s.hi ≤ V.heap.size ∧ ∃ u, Blk V g9 TM (mkrC (.pointer (some ⟨g, 0, none⟩)) u 0 0 (.slice none 0 0)) ∧ Own V TRf 34 u ((((seenE (Fw.els ns)).take i).map er).flatten) ∧ (∀ q, u.ownBlock = some q → s.hi ≤ q) ∧ Chg (fun k => k = g9) w6 V) (fun _ _ _ => False) ?_ ?_ ?_ ?_ ?_ ?_ ?_
  · intro w1_ s_ V hw_ hz_ hc_ hs_
    exact ⟨by have := hs_.1; omega, hs_.2.1, hs_.2.2, .slice none 0 0, (hB9.ext hw_).ext hc_, Own.nil, (fun q h => by simp [Value.ownBlock] at h), Ext.chg (hw_.thenExt hc_)⟩
  · intro s_ i_ V V_ hi_ hc_
    obtain ⟨hlo, hlh, hhi, u, hB9, hO, hf, hC⟩ := hi_
    have hzc := hc_.size
    exact ⟨hlo, hlh, by omega, u, hB9.chg hc_ (fun h => by rcases h with h | h; exact h; omega), hO.chg hc_ (fun q hq h => by rcases h with h | h; exact h; have := hf q hq; omega), hf, hC.trans hc_ (fun k hk h => by rcases h with h | h; exact h.elim; exact False.elim (by omega))⟩
  · intro s_ e_ V V_ hi_ hc_
    exact hi_.elim
  · intro s_ i_ V hi_
    obtain ⟨_, _, _, _, _, _, _, hC⟩ := hi_
    exact (hT6.chg hC (fun q hq h => by have := hTl q hq; have h : q = g9 := h; omega)).allN hG
  · intro s_ i_ x_ w7 hi_ hx_ hat_ hz_
    obtain ⟨hlo, hlh, hhi, u, hB9, hO, hf, hC⟩ := hi_
    obtain ⟨q, hq, rfl⟩ : ∃ q, (seenE (Fw.els ns))[i_]? = some q ∧ (nm (Fw.els ns) q, byteAt (Fw.els ns) q) = x_ := by
      rw [allXs8, List.getElem?_map] at hx_
      exact Option.map_eq_some_iff.1 hx_
    have hil := (List.getElem?_eq_some_iff.1 hq).1
    have hil2 : ((seenE (Fw.els ns)).take i_).length = i_ := by rw [List.length_take]; omega
    have hult := hO.lt
    obtain ⟨uA, um, uc, rfl⟩ := hO.lens
    have hE : Ext w7 w7 := Chg.refl
    refine CW.region ?_
    refine as_apiRef rfl (by simp) (by first | decide | exact Nat.le_of_ble_eq_true rfl) fun g10 w8 hx8 hg10 hB10 => ?_
    have hlt10 := hB10.lt; have hz8 := hx8.size
    have hM10 := hB10.mem; have hz8 := hx8.size; have hE := hE.thenExt hx8
    refine WL.nil ?_
    have hE_ : Ext w7 w8 := hx8
    refine ⟨hE_, fun w9 hc_ => ?_⟩
    have hz9 := hc_.size
    have hB9 := (hB9.ext hx8).chg hc_ (fun h => by omega)
    have hB10 := hB10.chg hc_ (fun h => by omega)
    have hO := (hO.ext hx8).chg hc_ (fun k hk h => by have := hf k hk; omega)
    have hC9 : Chg (fun k => k = g9) w6 w9 := (hC.thenExt hx8).trans hc_ (fun k hk h => False.elim (by omega))
    refine CW.block ?_
    refine CW.region ?_
    refine WL.val (Y.fieldAddr fo_editmaker1 rfl) (by first | decide | exact Nat.le_of_ble_eq_true rfl) ?_
    refine WL.val (Y.load1 Try.underlying76 rfl (mkr1 hB9.mem) rfl) (by first | decide | exact Nat.le_of_ble_eq_true rfl) ?_
    refine WL.val (Y.load Try.underlying61 rfl hB10.mem (sz_apiRef _) rfl) (by first | decide | exact Nat.le_of_ble_eq_true rfl) ?_
    refine WL.st (St.buildSlice rfl (bs1_ref _)) (by first | decide | exact Nat.le_of_ble_eq_true rfl) fun v36 w10 hR10 => ?_
    obtain ⟨g36, rfl, hg36, hB36, hx10⟩ := hR10
    have hz10 := hx10.size
    have hB9 := hB9.ext hx10
    refine WL.st (St.append (m := 1) (news := refC (nm (Fw.els ns) q)) Try.underlying76 Try.underlying76 ai_ref rfl rfl (hO.ext hx10) (Fw.Src.one hB36 (refC_length _)) one_refC (by rw [flat_length herl, hil2]; omega)) (by first | decide | exact Nat.le_of_ble_eq_true rfl) fun v37 w11 hR11 => ?_
    obtain ⟨hO8, hc8, hf8⟩ := hR11
    have hz11 := hc8.size
    obtain ⟨vA, vm, vc, rfl⟩ := hO8.lens
    have hf8 : ∀ k, (Value.slice vA vm vc).ownBlock = some k → s_.hi ≤ k := fun k hk => by
      rcases hf8 with h | h
      · rw [h] at hk; exact hf k hk
      · have := h k hk; omega
    have hO8 : Own w11 TRf 34 (.slice vA vm vc) ((((seenE (Fw.els ns)).take (i_ + 1)).map er).flatten) := by
      rw [Go.Pl.take_succ hq, List.map_append, List.flatten_append]
      simpa [her] using hO8
    have hL8 : Chg (fun k => k = g9 ∨ s_.hi ≤ k) w9 w11 := (Ext.chg hx10).trans hc8 (fun k _ h => .inr (hf k h))
    have hB9 := hB9.chg hc8 (fun h => by have := hf _ h; omega)
    refine WL.val (Y.fieldAddr fo_editmaker1 rfl) (by first | decide | exact Nat.le_of_ble_eq_true rfl) ?_
    refine WL.store (g := g9) (pre := [(.pointer (some ⟨g, 0, none⟩))]) (old := [.slice uA um uc]) (post := [.int .i64 ((0 : Nat) : Int), .int .i64 ((0 : Nat) : Int), .slice none 0 0]) (new := [.slice vA vm vc]) rfl rfl rfl rfl (by kernel_rfl) (by simpa [mkrC] using hB9) (by first | rfl | (simp [digC_length, opC_length]; done) | (simp only [digC_length, opC_length]; omega)) (one1 rfl) (fun w12 hc12 hB12_ => ?_)
    have hz12 := hc12.size
    have hB9 : Blk w12 g9 TM (mkrC (.pointer (some ⟨g, 0, none⟩)) (.slice vA vm vc) 0 0 (.slice none 0 0)) := by simpa [mkrC] using hB12_
    have hO9 := hO8.chg hc12 (fun k hk h => by have := hf8 k hk; have h : k = g9 := h; omega)
    have hL12 : Chg (fun k => k = g9 ∨ s_.hi ≤ k) w9 w12 := hL8.trans hc12 (fun k _ h => .inl h)
    have hC12 : Chg (fun k => k = g9) w6 w12 := hC9.trans hL12 (fun k hk h => by rcases h with h | h; exact h; exact False.elim (by omega))
    refine WL.nil ?_
    exact ⟨⟨hlo, hlh, by omega, _, hB9, hO9, hf8, hC12⟩, hL12.mono fun k _ h => ⟨fun hk => by have h1 := hk.1; have h2 := hk.2; omega, by omega, by omega⟩⟩
  · intro s_ w13 hi_ hD_ hfin_
    obtain ⟨hlo, hlh, hhi, uR, hB9, hO, hf, hC⟩ := hi_
    have hxl : (allXs8 (Fw.els ns) s_).length = (seenE (Fw.els ns)).length := by simp only [allXs8, List.length_map]
    rw [hxl, List.take_of_length_le (Nat.le_refl _)] at hO
    have hzC := hC.size
    have hE := hE6.step hC (fun k h => by have h : k = g9 := h; omega)
    have hB8 := hB8.chg hC (fun h => by have h : g8 = g9 := h; omega)
    have hT13 := hT6.chg hC (fun q hq h => by have := hTl q hq; have h : q = g9 := h; omega)
    have hO13 := hO6.chg hC (fun q hq h => by have := hlt3 q hq; have h : q = g9 := h; omega)
    have hA13 : MkrAt w13 g9 (.pointer (some ⟨g, 0, none⟩)) uR (.slice none 0 0) 0 0 ((seenE (Fw.els ns)).map (nm (Fw.els ns))) [] := ⟨hB9, by rw [her] at hO; simpa [List.map_map, Function.comp_def] using hO, Own.nil⟩
    refine hK13 _ _ _ ?_; try clear hK13 K13
    refine CN.seq fun K15 hK15 => ?_
    refine CN.seq fun K16 hK16 => ?_
    refine CN.of_CW ?_
    refine CW.region ?_
    refine WL.val (Y.move rfl) (by first | decide | exact Nat.le_of_ble_eq_true rfl) ?_
    refine WL.val (Y.len_slice Try.underlying55 rfl) (by first | decide | exact Nat.le_of_ble_eq_true rfl) ?_
    refine WL.val (Y.move rfl) (by first | decide | exact Nat.le_of_ble_eq_true rfl) ?_
    refine WL.nil ?_
    refine hK16 _ _ _ ?_; try clear hK16 K16
    refine CN.block ?_
    refine CN.of_CW ?_
    refine CW.loop (X := Nat × Value) (fun x => [(8, .pointer (some ⟨g8, 0, none⟩)), (9, .pointer (some ⟨g9, 0, none⟩)), (39, .slice lA lm lc), (40, .int .i64 (lm : Int)), (41, .int .i64 (x.1 : Int))]) (fun x w0 => x.1 ≤ lm ∧ MkrAt w0 g9 (.pointer (some ⟨g, 0, none⟩)) uR x.2 (opsAt (Fw.els ns) b x.1).at_ (opsAt (Fw.els ns) b x.1).kept ((seenE (Fw.els ns)).map (nm (Fw.els ns))) (opsAt (Fw.els ns) b x.1).out ∧ Chg (fun k => k = g9) w13 w0 ∧ (∀ q, x.2.ownBlock = some q → w13.heap.size ≤ q)) (fun x => lm - x.1) (0, .slice none 0 0) (by repeat (first | exact Fr.le.nil | refine Fr.le.cons rfl ?_)) ⟨Nat.zero_le _, (by simpa [opsAt] using hA13), Chg.refl, fun q h => by simp [Value.ownBlock] at h⟩ ?_
    intro x w14 hl14
    obtain ⟨i, ov2⟩ := x
    obtain ⟨hi, hA, hC14, hf14⟩ := hl14
    dsimp only at hi hA hf14 ⊢
    have hzC14 := hC14.size
    have hE := hE.step hC14 (fun k h => by have h : k = g9 := h; omega)
    have hB8 := hB8.chg hC14 (fun h => by have h : g8 = g9 := h; omega)
    have hB9 := hA.blk
    have hl14' := hO13.chg hC14 (fun q hq h => by have := hlt3 q hq; have h : q = g9 := h; omega)
    have hT14 := hT13.chg hC14 (fun q hq h => by have := hTl q hq; have h : q = g9 := h; omega)
    refine CW.seq fun K17 hK17 => ?_
    refine CW.region ?_
    refine WL.val (Y.lss rfl rfl) (by first | decide | exact Nat.le_of_ble_eq_true rfl) ?_
    refine WL.nil ?_
    refine hK17 _ _ ?_; try clear hK17 K17
    refine CW.seq fun K18 hK18 => ?_
    first | refine CW.condD rfl (fun ht19 => ?_) (fun ht19 => ?_) | refine CW.condND rfl (fun ht19 => ?_) (fun ht19 => ?_) | refine CW.condN rfl (fun ht19 => ?_) (fun ht19 => ?_) | refine CW.cond rfl (fun ht19 => ?_) (fun ht19 => ?_)
    · -- then
      refine CW.skip ?_
      refine hK18 _ _ ?_; try clear hK18 K18
      refine CW.seq fun K20 hK20 => ?_
      obtain ⟨ed, hed⟩ : ∃ ed, (scriptE (textE (Fw.els ns)) b)[i]? = some ed := ⟨_, List.getElem?_eq_getElem (by omega)⟩
      obtain ⟨f, fn, hk4, hfv, hfn, hbn, hnn, hcall⟩ := does_step g rb ra ad ns hG hn b hok hed
      obtain ⟨la, hla, hme⟩ := (hl14'.sl edC_length (by decide)).get hed
      subst hla
      refine CW.block ?_
      refine CW.seq fun K21 hK21 => ?_
      refine CW.region ?_
      refine WL.val (Y.indexAddrN Try.underlying55 rfl rfl sz0_apiEdit (by omega)) (by first | decide | exact Nat.le_of_ble_eq_true rfl) ?_
      refine WL.val (Y.load Try.underlying59 rfl hme (sz_apiEdit _) rfl) (by first | decide | exact Nat.le_of_ble_eq_true rfl) ?_
      refine as_apiEdit rfl (by simp) (by first | decide | exact Nat.le_of_ble_eq_true rfl) fun g12 w15 hx15 hg12 hB12 => ?_
      have hlt12 := hB12.lt; have hz15 := hx15.size
      have hM12 := hB12.mem; have hz15 := hx15.size; have hE := hE.thenExt hx15; have hB8 := hB8.ext hx15; have hB9 := hB9.ext hx15
      refine WL.nil ?_
      refine hK21 _ _ ?_; try clear hK21 K21
      refine CW.held (fun wq => Chg (fun k => k = g9 ∨ ov2.ownBlock = some k) w15 wq) (by kernel_rfl) 6 rfl fun w16 hx16 => ?_
      have hS : Chg (fun k => k = g9 ∨ ov2.ownBlock = some k) w15 w16 := hx16.chg
      have hz16 := hx16.size
      have hov := hA.ops.lt
      have hn12 : ¬ (g12 = g9 ∨ ov2.ownBlock = some g12) := fun h => by
        rcases h with h | h
        · omega
        · have := hov _ h; omega
      have hn8 : ¬ (g8 = g9 ∨ ov2.ownBlock = some g8) := fun h => by
        rcases h with h | h
        · omega
        · have := hf14 _ h; omega
      have hcell : ∀ wq, Chg (fun k => k = g9 ∨ ov2.ownBlock = some k) w15 wq → wq.cell? (Addr.add ⟨g8, 0, none⟩ (ed.kind * 1)) = some (.func (.func f) #[] #[]) := fun wq hq => by rw [Nat.mul_one]; exact (hB8.chg hq hn8).mem.cell _ hfv
      refine RH.take 0 (fun _ _ _ _ h => h) (by kernel_rfl) hS rfl (by kernel_rfl) (by kernel_rfl) (fun wq hq => Y.fieldAddr fo_apiEdit0 rfl) (by first | decide | exact Nat.le_of_ble_eq_true rfl) ?_
      refine RH.take 1 (fun _ _ _ _ h => h) (by kernel_rfl) hS rfl (by kernel_rfl) (by kernel_rfl) (fun wq hq => Y.load1 Try.underlying3 rfl (hB12.chg hq hn12).mem.apiEdit0 rfl) (by first | decide | exact Nat.le_of_ble_eq_true rfl) ?_
      refine RH.take 2 (fun _ _ _ _ h => h) (by kernel_rfl) hS rfl (by kernel_rfl) (by kernel_rfl) (fun wq hq => Y.indexAddrAN Try.underlying75 rfl rfl sz0_funceditmakerapiEdit (by omega) (i := ed.kind)) (by first | decide | exact Nat.le_of_ble_eq_true rfl) ?_
      refine RH.take 3 (fun _ _ _ _ h => h) (by kernel_rfl) hS rfl (by kernel_rfl) (by kernel_rfl) (fun wq hq => Y.load1 UDF rfl (hcell _ hq) rfl) (by first | decide | exact Nat.le_of_ble_eq_true rfl) ?_
      refine RH.take 4 (fun _ _ _ _ h => h) (by kernel_rfl) hS rfl (by kernel_rfl) (by kernel_rfl) (fun wq hq => Y.load Try.underlying59 rfl (hB12.chg hq hn12).mem (sz_apiEdit _) rfl) (by first | decide | exact Nat.le_of_ble_eq_true rfl) ?_
      refine RH.one 5 (by kernel_rfl) ?_
      refine RS.callV (f := f) (fn := fn) (cap := []) rfl rfl hfn hbn hnn rfl (hcall _ g9 uR ov2 (hT14.ext (hx15.thenExt hx16)) (hA.ext (hx15.thenExt hx16))) (by first | decide | exact Nat.le_of_ble_eq_true rfl) fun v50 w17 hR17 => ?_
      obtain ⟨ov3, hA3, hC3, hf3⟩ := hR17
      have hS := hS.trans hC3 (fun k _ h => h)
      refine ⟨hS, ?_⟩
      refine RH.done (by kernel_rfl) ?_
      have hCr : Chg (fun k => k = g9) w13 w17 := hC14.trans ((Ext.chg (S := fun k => k = g9 ∨ ov2.ownBlock = some k) hx15).trans hS (fun k _ h => h)) (fun k hk h => by
        rcases h with h | h
        · exact h
        · have := hf14 _ h; exact False.elim (by omega))
      have hfr : ∀ q, ov3.ownBlock = some q → w13.heap.size ≤ q := fun q hq => by
        rcases hf3 q hq with h | h
        · exact hf14 q h
        · omega
      refine hK20 _ _ ?_; try clear hK20 K20
      refine CW.region ?_
      refine WL.val (Y.add rfl rfl ⟨by omega, by omega⟩) (by first | decide | exact Nat.le_of_ble_eq_true rfl) ?_
      refine WL.val (Y.move rfl) (by first | decide | exact Nat.le_of_ble_eq_true rfl) ?_
      refine WL.nil ?_
      exact ⟨(i + 1, ov3), by show lm - (i + 1) < lm - i; omega, (by repeat (first | exact Fr.le.nil | refine Fr.le.cons rfl ?_)), by show i + 1 ≤ lm; omega, hA3, hCr, hfr⟩
 
    refine CW.exit ?_
    refine hK15 _ _ _ ?_; try clear hK15 K15
    refine CN.seq fun K22 hK22 => ?_
    refine CN.of_CW ?_
    refine CW.region ?_
    refine WL.val (Y.fieldAddr fo_editmaker4 rfl) (by first | decide | exact Nat.le_of_ble_eq_true rfl) ?_
    refine WL.val (Y.load1 Try.underlying27 rfl (mkr4 hB9.mem) rfl) (by first | decide | exact Nat.le_of_ble_eq_true rfl) ?_
    refine WL.val (Y.assign rfl) (by first | decide | exact Nat.le_of_ble_eq_true rfl) ?_
    refine WL.val (Y.assign rfl) (by first | decide | exact Nat.le_of_ble_eq_true rfl) ?_
    refine WL.nil ?_
    refine hK22 _ _ _ ?_; try clear hK22 K22
    refine CN.ret ?_
    obtain rfl : i = lm := by omega
    have hend : (opsAt (Fw.els ns) b i).out = opsE (Fw.els ns) b := by rw [← hlm]; exact opsAt_end
    rw [hend] at hA
    exact ⟨[w6.heap.size], rfl, by simp, (fun D hD => by simp at hD; subst hD; exact def_chg hD_ hC14 (fun h => by have h : w6.heap.size = g9 := h; omega)), _, rfl, fun w_ hc => ⟨ov2, (by rw [hok]; rfl), (by rw [opsR, if_pos hok]; exact hA.ops.chg hc (fun k hk h => by simp at h; have := hf14 k hk; omega)), (fun q hq => by have := hf14 q hq; omega), hE.step hc (fun k h => by simp at h; omega)⟩⟩
  · intro s_ e_ w18 hi_ hD_ hfin_ he_
    exact hi_.elim
end Go.Proofs.Ytmndofgagngcgaa
