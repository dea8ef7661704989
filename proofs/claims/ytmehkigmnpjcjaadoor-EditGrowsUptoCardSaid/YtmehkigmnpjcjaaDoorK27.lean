/- Parts of a proof: what its last text leans on. No condition. -/
import Derived.Test.YtmehkigmnpjcjaaDoorK05
import Derived.Test.YtmehkigmnpjcjaaDoorK08
import Derived.Test.YtmehkigmnpjcjaaDoorK20
import Derived.Test.YtmehkigmnpjcjaaDoorK24
import Derived.Test.YtmehkigmnpjcjaaDoorK25
import Derived.Test.YtmehkigmnpjcjaaDoorK26
set_option linter.unusedSimpArgs false
set_option linter.unusedVariables false
/- edit.Ops, walked, for a tree that was made. No condition but bounds. -/
namespace Go.Fu
open Go.Pl Go.Fw
def opsR (e : List El) (b : List UInt8) : List OpD := if mkErr (textE e) b = 0 then opsE e b else []
theorem mkE_ok {a b : List UInt8} (h : mkErr a b = 0) : mkE a b = scriptE a b ∧ a.length ≤ 1000 ∧ b.length ≤ 1000 := by
 unfold mkErr at h
 split at h
 ·
  cases h
 ·
  rename_i hc; exact ⟨if_neg hc, by omega, by omega⟩
theorem opsAt_cost {e : List El} {b : List UInt8} {k : Nat} {x : EdD} (h : (scriptE (textE e) b)[k]? = some x) : (opsAt e b k).out.length + x.cost ≤ (textE e).length + b.length := by
 have h1 := (opsAt_inv e b k).len
 have h2 : costE (scriptE (textE e) b) = costE ((scriptE (textE e) b).take (k + 1)) + costE ((scriptE (textE e) b).drop (k + 1)) := by rw [← costE_app, List.take_append_drop]
 rw [script_cost, Go.Pl.take_succ h, costE_app] at h2
 have h3 : costE [x] = x.cost := by simp [costE]
 have h4 := cst_le (textE e) b
 omega
end Go.Fu
namespace Go.Proofs.YtmehkigmnpjcjaaDoor
open Go.RowKit Go.Fw Go.Fu Go.Pl
abbrev TDo : TypeId := 92
abbrev UDF := Tryd.underlying89
def doesC : List Value := [.nilFunc, .func (.func 30) #[] #[], .func (.func 31) #[] #[], .func (.func 32) #[] #[]]
theorem build_does (w : World) : (Instr.build TDo [(1, Value.func (.func 30) #[] #[]), (2, Value.func (.func 31) #[] #[]), (3, Value.func (.func 32) #[] #[])].toArray).run Tryd.prog w = .ok (.agg doesC.toArray) w := run_build w _ _ _ kr_
theorem one_does : ∀ u ∈ doesC, u.oneCell' = true := by
 intro u hu
 simp only [doesC, List.mem_cons, List.not_mem_nil, or_false] at hu
 rcases hu with rfl | rfl | rfl | rfl <;> rfl
theorem info_does : ∃ i : TypeInfo, Tryd.prog.info? TDo = some i ∧ i.zero = some (.agg [Value.nilFunc, .nilFunc, .nilFunc, .nilFunc].toArray) ∧ i.size = 4 := by
 have h : (Tryd.prog.info? TDo).map (fun i => (i.zero, i.size)) = some (some (.agg [Value.nilFunc, .nilFunc, .nilFunc, .nilFunc].toArray), 4) := by kernel_rfl
 obtain ⟨i, hi, h⟩ := Option.map_eq_some_iff.1 h
 injection h with h1 h2
 exact ⟨i, hi, h1, h2⟩
theorem sz0_funceditmakerapiEdit : (Tryd.prog.info? 89).map (·.size) = some 1 := by kernel_rfl
theorem as_4funceditmakerapiEdit {n : NN} {Φ : Exit → Fr → World → Prop} {fr : Fr} {w : World} {ops : Array Oper} {rest : List Oper} {d : Nat} {x : Operand} {ty ty' : TypeId} {pos pos' : String} {aft aft' : Array Edge}
  (hx : ev fr x = some (.agg doesC.toArray)) (hxd : x ≠ .tmp d) (hd : d < n.1)
  (h : ∀ g w', Ext w w' → w.heap.size ≤ g → Blk w' g TDo doesC → WL Tryd.prog ops n Φ rest ((d, .pointer (some ⟨g, 0, none⟩)) :: fr) w') :
  WL Tryd.prog ops n Φ (⟨some d, .alloc TDo, ty, pos, aft, none⟩ :: ⟨none, .store TDo (.tmp d) x, ty', pos', aft', none⟩ :: rest) fr w := by
 obtain ⟨i, hi, hz, hs⟩ := info_does
 exact WL.allocStore (cs := doesC) (zs := [Value.nilFunc, .nilFunc, .nilFunc, .nilFunc]) hi hz rfl hs rfl hx hxd rfl one_does hd h
theorem info_mkr : ∃ i : TypeInfo, Tryd.prog.info? TM = some i ∧ i.zero = some (.agg (mkrC (.pointer none) (.slice none 0 0) 0 0 (.slice none 0 0)).toArray) ∧ i.size = 5 := by
 have h : (Tryd.prog.info? TM).map (fun i => (i.zero, i.size)) = some (some (.agg (mkrC (.pointer none) (.slice none 0 0) 0 0 (.slice none 0 0)).toArray), 5) := by kernel_rfl
 obtain ⟨i, hi, h⟩ := Option.map_eq_some_iff.1 h
 injection h with h1 h2
 exact ⟨i, hi, h1, h2⟩
theorem as_editmaker {n : NN} {Φ : Exit → Fr → World → Prop} {fr : Fr} {w : World} {ops : Array Oper} {rest : List Oper} {d : Nat} {x : Operand} {ty ty' : TypeId} {pos pos' : String} {aft aft' : Array Edge} {t : Addr}
  (hx : ev fr x = some (.agg (mkrC (.pointer (some t)) (.slice none 0 0) 0 0 (.slice none 0 0)).toArray)) (hxd : x ≠ .tmp d) (hd : d < n.1)
  (h : ∀ g w', Ext w w' → w.heap.size ≤ g → Blk w' g TM (mkrC (.pointer (some t)) (.slice none 0 0) 0 0 (.slice none 0 0)) → WL Tryd.prog ops n Φ rest ((d, .pointer (some ⟨g, 0, none⟩)) :: fr) w') :
  WL Tryd.prog ops n Φ (⟨some d, .alloc TM, ty, pos, aft, none⟩ :: ⟨none, .store TM (.tmp d) x, ty', pos', aft', none⟩ :: rest) fr w := by
 obtain ⟨i, hi, hz, hs⟩ := info_mkr
 exact WL.allocStore (cs := mkrC (.pointer (some t)) (.slice none 0 0) 0 0 (.slice none 0 0)) (zs := mkrC (.pointer none) (.slice none 0 0) 0 0 (.slice none 0 0)) hi hz rfl hs rfl hx hxd rfl (by
  intro u hu
  simp only [mkrC, List.mem_cons, List.not_mem_nil, or_false] at hu
  rcases hu with rfl | rfl | rfl | rfl | rfl <;> rfl) hd h
theorem build_mkr (t : Addr) (w : World) : (Instr.build TM [(0, Value.pointer (some t))].toArray).run Tryd.prog w = .ok (.agg (mkrC (.pointer (some t)) (.slice none 0 0) 0 0 (.slice none 0 0)).toArray) w := run_build w _ _ _ kr_
theorem info_ed : ∃ i : TypeInfo, Tryd.prog.info? TE = some i ∧ i.zero = some (.agg (edC ⟨0, 0, []⟩).toArray) ∧ i.size = 3 := by
 have h : (Tryd.prog.info? TE).map (fun i => (i.zero, i.size)) = some (some (.agg (edC ⟨0, 0, []⟩).toArray), 3) := by kernel_rfl
 obtain ⟨i, hi, h⟩ := Option.map_eq_some_iff.1 h
 injection h with h1 h2
 exact ⟨i, hi, h1, h2⟩
theorem as_apiEdit {n : NN} {Φ : Exit → Fr → World → Prop} {fr : Fr} {w : World} {ops : Array Oper} {rest : List Oper} {d : Nat} {x : Operand} {ty ty' : TypeId} {pos pos' : String} {aft aft' : Array Edge} {v : EdD}
  (hx : ev fr x = some (.agg (edC v).toArray)) (hxd : x ≠ .tmp d) (hd : d < n.1)
  (h : ∀ g w', Ext w w' → w.heap.size ≤ g → Blk w' g TE (edC v) → WL Tryd.prog ops n Φ rest ((d, .pointer (some ⟨g, 0, none⟩)) :: fr) w') :
  WL Tryd.prog ops n Φ (⟨some d, .alloc TE, ty, pos, aft, none⟩ :: ⟨none, .store TE (.tmp d) x, ty', pos', aft', none⟩ :: rest) fr w := by
 obtain ⟨i, hi, hz, hs⟩ := info_ed
 exact WL.allocStore (cs := edC v) (zs := edC ⟨0, 0, []⟩) hi hz rfl hs rfl hx hxd rfl one_edC hd h
theorem does_step (tg rb ra : Nat) (ad : List Dig) (ns : List Nn) (hG : Fu.Good (Fw.els ns)) (hn : ns.length ≤ 400001) (b : List UInt8) (hok : mkErr (textE (Fw.els ns)) b = 0) {k : Nat} {ed : EdD} (hx : (scriptE (textE (Fw.els ns)) b)[k]? = some ed) :
  ∃ (f : FuncId) (fn : Func), ed.kind < 4 ∧ doesC[ed.kind]? = some (.func (.func f) #[] #[]) ∧ Tryd.prog.funcs[f]? = some fn ∧ fn.body.isNone = false ∧ (fn.name == "runtime.NumGoroutine") = false ∧ ∀ (W : World) (g : Nat) (rv ov : Value), FtAt W tg rb ra ad ns →
   MkrAt W g (.pointer (some ⟨tg, 0, none⟩)) rv ov (opsAt (Fw.els ns) b k).at_ (opsAt (Fw.els ns) b k).kept ((seenE (Fw.els ns)).map (nm (Fw.els ns))) (opsAt (Fw.els ns) b k).out →
   Calls Tryd.prog f #[.pointer (some ⟨g, 0, none⟩), .agg (edC ed).toArray] W (Ret fun _ W' => ∃ ov', MkrAt W' g (.pointer (some ⟨tg, 0, none⟩)) rv ov' (opsAt (Fw.els ns) b (k + 1)).at_ (opsAt (Fw.els ns) b (k + 1)).kept ((seenE (Fw.els ns)).map (nm (Fw.els ns))) (opsAt (Fw.els ns) b (k + 1)).out ∧
    Chg (fun q => q = g ∨ ov.ownBlock = some q) W W' ∧ (∀ q, ov'.ownBlock = some q → ov.ownBlock = some q ∨ W.heap.size ≤ q)) := by
 obtain ⟨_, hl1, hl2⟩ := mkE_ok hok
 have hsl : (seenE (Fw.els ns)).length ≤ 1000 := by simpa [textE] using hl1
 have hov := opsAt_over hx
 have hco := opsAt_cost hx
 have hmay := script_may _ _ ed (List.mem_of_getElem? hx)
 have hsu := opsAt_succ hx
 rcases hmay with ⟨hk | hk, hpos, ht⟩ | ⟨hk, hn0, ht⟩
 ·
  have ho : ed.over = ed.n := by unfold EdD.over; rw [if_neg om_]
  refine ⟨_, _, by omega, by rw [hk]; rfl, Tryd.func30, rfl, rfl, fun W g rv ov _ hA => ?_⟩
  refine (mkeep_any g _ rv ov _ _ _ _ ed W hA om_ om_).mono fun e W' h => ?_
  cases e with
  | returned v =>
   obtain ⟨h1, h2⟩ := h
   have hs2 : opsAt (Fw.els ns) b (k + 1) = ⟨(opsAt (Fw.els ns) b k).at_ + ed.n, (opsAt (Fw.els ns) b k).at_ + ed.n, (opsAt (Fw.els ns) b k).out⟩ := by rw [hsu, edOps, if_pos hk]
   rw [hs2]
   exact ⟨ov, h1, h2.mono fun q _ h => .inl h, fun q hq => .inl hq⟩
  | _ => exact h.elim
 ·
  have ho : ed.over = ed.n := by unfold EdD.over; rw [if_neg om_]
  refine ⟨_, _, by omega, by rw [hk]; rfl, Tryd.func31, rfl, rfl, fun W g rv ov _ hA => ?_⟩
  refine (mcut_any g _ rv ov _ _ _ _ ed W hA (by rw [List.length_map]; omega) (by rw [List.length_map]; omega) om_).mono fun e W' h => ?_
  cases e with
  | returned v =>
   obtain ⟨ov', h1, h2, h3⟩ := h
   have hs2 : opsAt (Fw.els ns) b (k + 1) = ⟨(opsAt (Fw.els ns) b k).at_ + ed.n, (opsAt (Fw.els ns) b k).kept, (opsAt (Fw.els ns) b k).out ++ cutL ((seenE (Fw.els ns)).map (nm (Fw.els ns))) (opsAt (Fw.els ns) b k).at_ ed.n⟩ := by
    rw [hsu, edOps, if_neg om_, if_pos hk]
    simp [cutOps, cutL, ← List.map_drop, ← List.map_take, Function.comp_def]
   rw [hs2]
   exact ⟨ov', h1, h2, h3⟩
  | _ => exact h.elim
 ·
  have hc : ed.cost = ed.text.length := by unfold EdD.cost; rw [if_neg om_]; omega
  refine ⟨_, _, by omega, by rw [hk]; rfl, Tryd.func32, rfl, rfl, fun W g rv ov hT hA => ?_⟩
  refine (mput_any tg rb ra ad ns g _ rv ov _ _ _ _ ed W rfl hT hG hn hA om_ om_).mono fun e W' h => ?_
  cases e with
  | returned v =>
   obtain ⟨ov', h1, h2, h3⟩ := h
   have hs2 : opsAt (Fw.els ns) b (k + 1) = ⟨(opsAt (Fw.els ns) b k).at_, (opsAt (Fw.els ns) b k).kept, (opsAt (Fw.els ns) b k).out ++ insOps (gapE (Fw.els ns) ((opsAt (Fw.els ns) b k).kept : Int)) (opsAt (Fw.els ns) b k).out.length ed.text⟩ := by
    rw [hsu, edOps, if_neg om_, if_neg om_]
   rw [hs2]
   exact ⟨ov', h1, h2, h3⟩
  | _ => exact h.elim
set_option maxRecDepth 100000 in
set_option maxHeartbeats 2000000 in
theorem fops_any (g rb ra : Nat) (ad : List Dig) (ns : List Nn) (b : List UInt8) (w : World) (hT : FtAt w g rb ra ad ns) (hG : Fu.Good (Fw.els ns)) (hn : ns.length ≤ 400001) (hb : b.length < 4611686018427387904) : Calls Tryd.prog 17 #[.pointer (some ⟨g, 0, none⟩), .string (bs b)] w (Ret fun v w' => ∃ u, v = .tuple #[u, .int .i64 (mkErr (textE (Fw.els ns)) b : Int)] ∧ Own w' TOp 37 u (flatO (opsR (Fw.els ns) b)) ∧ (∀ q, u.ownBlock = some q → w.heap.size ≤ q) ∧ Ext w w') := by
 have hlv : (seenE (Fw.els ns)).length ≤ 400001 := by
  have h1 := List.countP_le_length (p := fun x : El => !x.gone) (l := Fw.els ns)
  rw [hG.seen_length]; rw [List.length_map] at h1; exact Nat.le_trans h1 hn
 have htl : (textE (Fw.els ns)).length = (seenE (Fw.els ns)).length := by simp [textE]
 obtain ⟨er, her⟩ : ∃ er : Nat → List Value, er = fun q => refC (nm (Fw.els ns) q) := ⟨_, rfl⟩
 have herl : ∀ q, (er q).length = 34 := fun q => by rw [her]; exact refC_length _
 have hTl := fun q (hq : Fp g rb ra ns q) => hT.lt hq
 refine calls_of_CN 54 [4, 5] [(0, .pointer (some ⟨g, 0, none⟩)), (1, .string (bs b))] Tryd.func17 rfl rfl rfl (by simp) args2 ?_
 have hE : Ext w w := Chg.refl
 refine CN.seq fun K1 hK1 => ?_
 refine CN.of_CW ?_
 refine CW.region ?_
 refine WL.val (Y.assign rfl) dx_ ?_
 refine WL.val (Y.assign rfl) dx_ ?_
 refine WL.nil ?_
 refine hK1 _ _ _ ?_; try clear hK1
 refine CN.seq fun K2 hK2 => ?_
 refine CN.seq fun K3 hK3 => ?_
 refine CN.of_CW ?_
 refine CW.region ?_
 refine WL.val (Y.move rfl) dx_ ?_
 refine WL.call Tryd.func28 rfl rfl rfl (fcopy_any g rb ra ad ns _ hT hG hn) (by simp) ?_; rintro v14 w1 hR1
 obtain ⟨gc, rbc, rac, nsc, rfl, _, _, _, hx1⟩ := hR1
 have hz1 := hx1.size
 have hE := hE.thenExt hx1
 refine WL.val (Y.eql_fugueTree rfl rfl) dx_ ?_
 refine WL.nil ?_
 refine hK3 _ _ _ ?_; try clear hK3
 first | refine CN.condD rfl (fun ht4 => ?_) (fun ht4 => ?_) | refine CN.condND rfl (fun ht4 => ?_) (fun ht4 => ?_) | refine CN.condN rfl (fun ht4 => ?_) (fun ht4 => ?_) | refine CN.cond rfl (fun ht4 => ?_) (fun ht4 => ?_)
 ·
  -- then
  refine CN.seq fun K5 hK5 => ?_
  refine CN.of_CW ?_
  refine CW.region ?_
  refine WL.val (Y.assign rfl) dx_ ?_
  refine WL.val (Y.assign rfl) dx_ ?_
  refine WL.nil ?_
  refine hK5 _ _ _ ?_; try clear hK5
  refine CN.ret ?_
  exact absurd ht4 (by simp)
 refine CN.skip ?_
 refine hK2 _ _ _ ?_; try clear hK2
 refine CN.seq fun K6 hK6 => ?_
 refine CN.of_CW ?_
 refine CW.region ?_
 refine WL.val (Y.move rfl) dx_ ?_
 refine WL.call Tryd.func24 rfl rfl rfl (ftext_any g rb ra ad ns _ (hT.ext hE) hG hn) (by simp) ?_; rintro v w2 ⟨rfl, hx2⟩; have hz2 := hx2.size; have hE := hE.thenExt hx2
 refine WL.val (Y.move rfl) dx_ ?_
 refine WL.call Tryd.func29 rfl rfl rfl (fmake_any (textE (Fw.els ns)) b _ om_ hb) (by simp) ?_; rintro v20 w3 hR3
 obtain ⟨lv, rfl, hO3, hf3, hx3⟩ := hR3
 have hz3 := hx3.size
 have hE := hE.thenExt hx3
 refine WL.val (Y.move rfl) dx_ ?_
 refine WL.val (Y.extract rfl rfl) dx_ ?_
 refine WL.val (Y.extract rfl rfl) dx_ ?_
 refine WL.val (Y.assign rfl) dx_ ?_
 refine WL.val (Y.assign rfl) dx_ ?_
 refine WL.nil ?_
 refine hK6 _ _ _ ?_; try clear hK6
 refine CN.seq fun K7 hK7 => ?_
 refine CN.seq fun K8 hK8 => ?_
 refine CN.of_CW ?_
 refine CW.region ?_
 refine WL.val (Y.move rfl) dx_ ?_
 refine WL.val (Y.neq rfl rfl) dx_ ?_
 refine WL.nil ?_
 refine hK8 _ _ _ ?_; try clear hK8
 first | refine CN.condD rfl (fun ht9 => ?_) (fun ht9 => ?_) | refine CN.condND rfl (fun ht9 => ?_) (fun ht9 => ?_) | refine CN.condN rfl (fun ht9 => ?_) (fun ht9 => ?_) | refine CN.cond rfl (fun ht9 => ?_) (fun ht9 => ?_)
 ·
  -- then
  refine CN.seq fun K10 hK10 => ?_
  refine CN.of_CW ?_
  refine CW.region ?_
  refine WL.val (Y.move rfl) dx_ ?_
  refine WL.val (Y.assign rfl) dx_ ?_
  refine WL.val (Y.assign rfl) dx_ ?_
  refine WL.nil ?_
  refine hK10 _ _ _ ?_; try clear hK10
  refine CN.ret ?_
  have h0 : mkErr (textE (Fw.els ns)) b ≠ 0 := fun h => ht9 (by rw [h]; rfl)
  exact ⟨[], rfl, by simp, (fun D hD => by simp at hD), _, rfl, fun w_ hc => ⟨_, rfl, (by rw [opsR, if_neg h0]; exact Own.nil), (fun q h => by simp [Value.ownBlock] at h), hE.step hc (fun k h => by simp at h)⟩⟩
 refine CN.skip ?_
 refine hK7 _ _ _ ?_; try clear hK7
 have hok : mkErr (textE (Fw.els ns)) b = 0 := by omega
 obtain ⟨hmk, hl1, hl2⟩ := mkE_ok hok
 rw [hmk] at hO3
 obtain ⟨lA, lm, lc, rfl⟩ := hO3.lens
 have hlm := (hO3.len edC_length de_).1
 have hll : lm ≤ 2000 := by have := script_length (textE (Fw.els ns)) b; omega
 have hlt3 := hO3.lt
 refine CN.seq fun K11 hK11 => ?_
 refine CN.of_CW ?_
 refine CW.region ?_
 refine WL.val (Y.build rfl (build_does _)) dx_ ?_
 refine as_4funceditmakerapiEdit rfl (by simp) dx_ fun g8 w4 hx4 hg8 hB8 => ?_
 have hlt8 := hB8.lt; have hz4 := hx4.size
 have hM8 := hB8.mem; have hz4 := hx4.size; have hE := hE.thenExt hx4
 refine WL.nil ?_
 refine hK11 _ _ _ ?_; try clear hK11
 refine CN.seq fun K12 hK12 => ?_
 refine CN.of_CW ?_
 refine CW.region ?_
 refine WL.val (Y.move rfl) dx_ ?_
 refine WL.val (Y.build rfl (build_mkr _ _)) dx_ ?_
 refine as_editmaker rfl (by simp) dx_ fun g9 w5 hx5 hg9 hB9 => ?_
 have hlt9 := hB9.lt; have hz5 := hx5.size
 have hM9 := hB9.mem; have hz5 := hx5.size; have hE := hE.thenExt hx5; have hB8 := hB8.ext hx5
 refine WL.nil ?_
 refine hK12 _ _ _ ?_; try clear hK12
 refine CN.seq fun K13 hK13 => ?_
 refine CN.seq fun K14 hK14 => ?_
 refine CN.of_CW ?_
 refine CW.region ?_
 refine WL.val (Y.move rfl) dx_ ?_
 refine WL.call Tryd.func33 rfl rfl rfl (fall_any ⟨g, 0, none⟩ _) (by simp) ?_; rintro v30 w6 hR6
 obtain ⟨b6, rfl, hgb, hBb, hx6⟩ := hR6
 have hz6 := hx6.size
 have hE := hE.thenExt hx6
 have hB8 := hB8.ext hx6
 have hB9 := hB9.ext hx6
 have hT6 := hT.ext hE
 have hE6 := hE
 have hO6 := ((hO3.ext hx4).ext hx5).ext hx6
 refine WL.nil ?_
 refine hK14 _ _ _ ?_; try clear hK14
 refine CN.block ?_
 refine CN.rangeN (rfl) Tryd.func56 rfl rfl (fall1_any g rb ra ad ns b6 _ hT6 hG hn hBb) (fun _ => rfl) dx_ (fun _ h => h.elim) (fun w1 s V hz hs i hk => by have := hs.1; have := hk.1; omega) (fun s i V => w6.heap.size + 2 ≤ s.lo ∧ s.lo ≤ s.hi ∧ s.hi ≤ V.heap.size ∧ ∃ u, Blk V g9 TM (mkrC (.pointer (some ⟨g, 0, none⟩)) u 0 0 (.slice none 0 0)) ∧ Own V TRf 34 u ((((seenE (Fw.els ns)).take i).map er).flatten) ∧ (∀ q, u.ownBlock = some q → s.hi ≤ q) ∧ Chg (fun k => k = g9) w6 V) (fun _ _ _ => False) ?_ ?_ ?_ ?_ ?_ ?_ ?_
 ·
  intro w1_ s_ V hw_ hz_ hc_ hs_
  exact ⟨by have := hs_.1; omega, hs_.2.1, hs_.2.2, .slice none 0 0, (hB9.ext hw_).ext hc_, Own.nil, (fun q h => by simp [Value.ownBlock] at h), Ext.chg (hw_.thenExt hc_)⟩
 ·
  intro s_ i_ V V_ hi_ hc_
  obtain ⟨hlo, hlh, hhi, u, hB9, hO, hf, hC⟩ := hi_
  have hzc := hc_.size
  exact ⟨hlo, hlh, by omega, u, hB9.chg hc_ (fun h => by rcases h with h | h; exact h; omega), hO.chg hc_ (fun q hq h => by rcases h with h | h; exact h; have := hf q hq; omega), hf, hC.trans hc_ (fun k hk h => by rcases h with h | h; exact h.elim; exact False.elim om_)⟩
 ·
  intro s_ e_ V V_ hi_ hc_
  exact hi_.elim
 ·
  intro s_ i_ V hi_
  obtain ⟨_, _, _, _, _, _, _, hC⟩ := hi_
  exact (hT6.chg hC (fun q hq h => by have := hTl q hq; have h : q = g9 := h; omega)).allN hG
 ·
  intro s_ i_ x_ w7 hi_ hx_ hat_ hz_
  obtain ⟨hlo, hlh, hhi, u, hB9, hO, hf, hC⟩ := hi_
  obtain ⟨q, hq, rfl⟩ : ∃ q, (seenE (Fw.els ns))[i_]? = some q ∧ (nm (Fw.els ns) q, byteAt (Fw.els ns) q) = x_ := by
   rw [allXs8, List.getElem?_map] at hx_
   exact Option.map_eq_some_iff.1 hx_
  have hil := (List.getElem?_eq_some_iff.1 hq).1
  have hil2 : ((seenE (Fw.els ns)).take i_).length = i_ := by rw [List.length_take]; omega
  have hult := hO.lt
  obtain ⟨uA, um, uc, rfl⟩ := hO.lens
  have hE : Ext w7 w7 := Chg.refl
  refine CW.region ?_
  refine as_apiRef rfl (by simp) dx_ fun g10 w8 hx8 hg10 hB10 => ?_
  have hlt10 := hB10.lt; have hz8 := hx8.size
  have hM10 := hB10.mem; have hz8 := hx8.size; have hE := hE.thenExt hx8
  refine WL.nil ?_
  have hE_ : Ext w7 w8 := hx8
  refine ⟨hE_, fun w9 hc_ => ?_⟩
  have hz9 := hc_.size
  have hB9 := (hB9.ext hx8).chg hc_ no_
  have hB10 := hB10.chg hc_ no_
  have hO := (hO.ext hx8).chg hc_ (fun k hk h => by have := hf k hk; omega)
  have hC9 : Chg (fun k => k = g9) w6 w9 := (hC.thenExt hx8).trans hc_ (fun k hk h => False.elim om_)
  refine CW.block ?_
  refine CW.region ?_
  refine WL.val (Y.fieldAddr fo_editmaker1 rfl) dx_ ?_
  refine WL.val (Y.load1 Tryd.underlying93 rfl (mkr1 hB9.mem) rfl) dx_ ?_
  refine WL.val (Y.load Tryd.underlying60 rfl hB10.mem (sz_apiRef _) rfl) dx_ ?_
  refine WL.st (St.buildSlice rfl (bs1_ref _)) dx_ fun v36 w10 hR10 => ?_
  obtain ⟨g36, rfl, hg36, hB36, hx10⟩ := hR10
  have hz10 := hx10.size
  have hB9 := hB9.ext hx10
  refine WL.st (St.append (m := 1) (news := refC (nm (Fw.els ns) q)) Tryd.underlying93 Tryd.underlying93 ai_ref rfl rfl (hO.ext hx10) (Fw.Src.one hB36 (refC_length _)) one_refC (by rw [flat_length herl, hil2]; omega)) dx_ fun v37 w11 hR11 => ?_
  obtain ⟨hO8, hc8, hf8⟩ := hR11
  have hz11 := hc8.size
  obtain ⟨vA, vm, vc, rfl⟩ := hO8.lens
  have hf8 : ∀ k, (Value.slice vA vm vc).ownBlock = some k → s_.hi ≤ k := fun k hk => by
   rcases hf8 with h | h
   ·
    rw [h] at hk; exact hf k hk
   ·
    have := h k hk; omega
  have hO8 : Own w11 TRf 34 (.slice vA vm vc) ((((seenE (Fw.els ns)).take (i_ + 1)).map er).flatten) := by
   rw [Go.Pl.take_succ hq, List.map_append, List.flatten_append]
   simpa [her] using hO8
  have hL8 : Chg (fun k => k = g9 ∨ s_.hi ≤ k) w9 w11 := (Ext.chg hx10).trans hc8 (fun k _ h => .inr (hf k h))
  have hB9 := hB9.chg hc8 (fun h => by have := hf _ h; omega)
  refine WL.val (Y.fieldAddr fo_editmaker1 rfl) dx_ ?_
  refine WL.store (g := g9) (pre := [(.pointer (some ⟨g, 0, none⟩))]) (old := [.slice uA um uc]) (post := [.int .i64 ((0 : Nat) : Int), .int .i64 ((0 : Nat) : Int), .slice none 0 0]) (new := [.slice vA vm vc]) rfl rfl rfl rfl kr_ (by simpa [mkrC] using hB9) ln_ (one1 rfl) (fun w12 hc12 hB12_ => ?_)
  have hz12 := hc12.size
  have hB9 : Blk w12 g9 TM (mkrC (.pointer (some ⟨g, 0, none⟩)) (.slice vA vm vc) 0 0 (.slice none 0 0)) := by simpa [mkrC] using hB12_
  have hO9 := hO8.chg hc12 (fun k hk h => by have := hf8 k hk; have h : k = g9 := h; omega)
  have hL12 : Chg (fun k => k = g9 ∨ s_.hi ≤ k) w9 w12 := hL8.trans hc12 (fun k _ h => .inl h)
  have hC12 : Chg (fun k => k = g9) w6 w12 := hC9.trans hL12 (fun k hk h => by rcases h with h | h; exact h; exact False.elim om_)
  refine WL.nil ?_
  exact ⟨⟨hlo, hlh, by omega, _, hB9, hO9, hf8, hC12⟩, hL12.mono fun k _ h => ⟨fun hk => by have h1 := hk.1; have h2 := hk.2; omega, by omega, by omega⟩⟩
 ·
  intro s_ w13 hi_ hD_ hfin_
  obtain ⟨hlo, hlh, hhi, uR, hB9, hO, hf, hC⟩ := hi_
  have hxl : (allXs8 (Fw.els ns) s_).length = (seenE (Fw.els ns)).length := by simp only [allXs8, List.length_map]
  rw [hxl, List.take_of_length_le (Nat.le_refl _)] at hO
  have hzC := hC.size
  have hE := hE6.step hC (fun k h => by have h : k = g9 := h; omega)
  have hB8 := hB8.chg hC (fun h => by have h : g8 = g9 := h; omega)
  have hT13 := hT6.chg hC (fun q hq h => by have := hTl q hq; have h : q = g9 := h; omega)
  have hO13 := hO6.chg hC (fun q hq h => by have := hlt3 q hq; have h : q = g9 := h; omega)
  have hA13 : MkrAt w13 g9 (.pointer (some ⟨g, 0, none⟩)) uR (.slice none 0 0) 0 0 ((seenE (Fw.els ns)).map (nm (Fw.els ns))) [] := ⟨hB9, by rw [her] at hO; simpa [List.map_map, Function.comp_def] using hO, Own.nil⟩
  refine hK13 _ _ _ ?_; try clear hK13
  refine CN.seq fun K15 hK15 => ?_
  refine CN.seq fun K16 hK16 => ?_
  refine CN.of_CW ?_
  refine CW.region ?_
  refine WL.val (Y.move rfl) dx_ ?_
  refine WL.val (Y.len_slice Tryd.underlying86 rfl) dx_ ?_
  refine WL.val (Y.move rfl) dx_ ?_
  refine WL.nil ?_
  refine hK16 _ _ _ ?_; try clear hK16
  refine CN.block ?_
  refine CN.of_CW ?_
  refine CW.loop (X := Nat × Value) (fun x => [(8, .pointer (some ⟨g8, 0, none⟩)), (9, .pointer (some ⟨g9, 0, none⟩)), (39, .slice lA lm lc), (40, .int .i64 (lm : Int)), (41, .int .i64 (x.1 : Int))]) (fun x w0 => x.1 ≤ lm ∧ MkrAt w0 g9 (.pointer (some ⟨g, 0, none⟩)) uR x.2 (opsAt (Fw.els ns) b x.1).at_ (opsAt (Fw.els ns) b x.1).kept ((seenE (Fw.els ns)).map (nm (Fw.els ns))) (opsAt (Fw.els ns) b x.1).out ∧ Chg (fun k => k = g9) w13 w0 ∧ (∀ q, x.2.ownBlock = some q → w13.heap.size ≤ q)) (fun x => lm - x.1) (0, .slice none 0 0) Fr.ok ⟨Nat.zero_le _, (by simpa [opsAt] using hA13), Chg.refl, fun q h => by simp [Value.ownBlock] at h⟩ ?_
  intro x w14 hl14
  obtain ⟨i, ov2⟩ := x
  obtain ⟨hi, hA, hC14, hf14⟩ := hl14
  dsimp only at hi hA hf14 ⊢
  have hzC14 := hC14.size
  have hE := hE.step hC14 (fun k h => by have h : k = g9 := h; omega)
  have hB8 := hB8.chg hC14 (fun h => by have h : g8 = g9 := h; omega)
  have hB9 := hA.blk
  have hl14' := hO13.chg hC14 (fun q hq h => by have := hlt3 q hq; have h : q = g9 := h; omega)
  have hT14 := hT13.chg hC14 (fun q hq h => by have := hTl q hq; have h : q = g9 := h; omega)
  refine CW.sr fun K17 hK17 => ?_
  refine WL.val (Y.lss rfl rfl) dx_ ?_
  refine WL.nil (hK17 _ _ ?_); try clear hK17
  refine CW.seq fun K18 hK18 => ?_
  (first | refine cd_ rfl ?_ ?_ | refine ce_ rfl ?_ ?_ | refine cn_ rfl ?_ ?_ | refine cb_ rfl ?_ ?_) <;> intro ht19
  ·
   -- then
   refine CW.skip ?_
   refine hK18 _ _ ?_; try clear hK18
   refine CW.seq fun K20 hK20 => ?_
   obtain ⟨ed, hed⟩ : ∃ ed, (scriptE (textE (Fw.els ns)) b)[i]? = some ed := ⟨_, List.getElem?_eq_getElem om_⟩
   obtain ⟨f, fn, hk4, hfv, hfn, hbn, hnn, hcall⟩ := does_step g rb ra ad ns hG hn b hok hed
   obtain ⟨la, hla, hme⟩ := (hl14'.sl edC_length de_).get hed
   subst hla
   refine CW.block ?_
   refine CW.sr fun K21 hK21 => ?_
   refine WL.val (Y.indexAddrN Tryd.underlying86 rfl rfl sz0_apiEdit om_) dx_ ?_
   refine WL.val (Y.load Tryd.underlying100 rfl hme (sz_apiEdit _) rfl) dx_ ?_
   refine as_apiEdit rfl (by simp) dx_ fun g12 w15 hx15 hg12 hB12 => ?_
   have hlt12 := hB12.lt; have hz15 := hx15.size
   have hM12 := hB12.mem; have hz15 := hx15.size; have hE := hE.thenExt hx15; have hB8 := hB8.ext hx15; have hB9 := hB9.ext hx15
   refine WL.nil (hK21 _ _ ?_); try clear hK21
   refine CW.held (fun wq => Chg (fun k => k = g9 ∨ ov2.ownBlock = some k) w15 wq) kr_ 6 rfl fun w16 hx16 => ?_
   have hS : Chg (fun k => k = g9 ∨ ov2.ownBlock = some k) w15 w16 := hx16.chg
   have hz16 := hx16.size
   have hov := hA.ops.lt
   have hn12 : ¬ (g12 = g9 ∨ ov2.ownBlock = some g12) := fun h => by
    rcases h with h | h
    ·
     omega
    ·
     have := hov _ h; omega
   have hn8 : ¬ (g8 = g9 ∨ ov2.ownBlock = some g8) := fun h => by
    rcases h with h | h
    ·
     omega
    ·
     have := hf14 _ h; omega
   have hcell : ∀ wq, Chg (fun k => k = g9 ∨ ov2.ownBlock = some k) w15 wq → wq.cell? (Addr.add ⟨g8, 0, none⟩ (ed.kind * 1)) = some (.func (.func f) #[] #[]) := fun wq hq => by rw [Nat.mul_one]; exact (hB8.chg hq hn8).mem.cell _ hfv
   refine RH.take 0 (fun _ _ _ _ h => h) kr_ hS rfl kr_ kr_ (fun wq hq => Y.fieldAddr fo_apiEdit0 rfl) dx_ ?_
   refine RH.take 1 (fun _ _ _ _ h => h) kr_ hS rfl kr_ kr_ (fun wq hq => Y.load1 Tryd.underlying3 rfl (hB12.chg hq hn12).mem.apiEdit0 rfl) dx_ ?_
   refine RH.take 2 (fun _ _ _ _ h => h) kr_ hS rfl kr_ kr_ (fun wq hq => Y.indexAddrAN Tryd.underlying92 rfl rfl sz0_funceditmakerapiEdit om_ (i := ed.kind)) dx_ ?_
   refine RH.take 3 (fun _ _ _ _ h => h) kr_ hS rfl kr_ kr_ (fun wq hq => Y.load1 UDF rfl (hcell _ hq) rfl) dx_ ?_
   refine RH.take 4 (fun _ _ _ _ h => h) kr_ hS rfl kr_ kr_ (fun wq hq => Y.load Tryd.underlying100 rfl (hB12.chg hq hn12).mem (sz_apiEdit _) rfl) dx_ ?_
   refine RH.one 5 kr_ ?_
   refine RS.callV (f := f) (fn := fn) (cap := []) rfl rfl hfn hbn hnn rfl (hcall _ g9 uR ov2 (hT14.ext (hx15.thenExt hx16)) (hA.ext (hx15.thenExt hx16))) dx_ fun v50 w17 hR17 => ?_
   obtain ⟨ov3, hA3, hC3, hf3⟩ := hR17
   have hS := hS.trans hC3 (fun k _ h => h)
   refine ⟨hS, ?_⟩
   refine RH.done kr_ ?_
   have hCr : Chg (fun k => k = g9) w13 w17 := hC14.trans ((Ext.chg (S := fun k => k = g9 ∨ ov2.ownBlock = some k) hx15).trans hS (fun k _ h => h)) (fun k hk h => by
    rcases h with h | h
    ·
     exact h
    ·
     have := hf14 _ h; exact False.elim om_)
   have hfr : ∀ q, ov3.ownBlock = some q → w13.heap.size ≤ q := fun q hq => by
    rcases hf3 q hq with h | h
    ·
     exact hf14 q h
    ·
     omega
   refine hK20 _ _ ?_; try clear hK20
   refine CW.region ?_
   refine WL.val (Y.add rfl rfl o2_) dx_ ?_
   refine WL.val (Y.move rfl) dx_ ?_
   refine WL.nil ?_
   exact ⟨(i + 1, ov3), by show lm - (i + 1) < lm - i; omega, Fr.ok, by show i + 1 ≤ lm; omega, hA3, hCr, hfr⟩
  refine CW.exit ?_
  refine hK15 _ _ _ ?_; try clear hK15
  refine CN.seq fun K22 hK22 => ?_
  refine CN.of_CW ?_
  refine CW.region ?_
  refine WL.val (Y.fieldAddr fo_editmaker4 rfl) dx_ ?_
  refine WL.val (Y.load1 Tryd.underlying27 rfl (mkr4 hB9.mem) rfl) dx_ ?_
  refine WL.val (Y.assign rfl) dx_ ?_
  refine WL.val (Y.assign rfl) dx_ ?_
  refine WL.nil ?_
  refine hK22 _ _ _ ?_; try clear hK22
  refine CN.ret ?_
  obtain rfl : i = lm := by omega
  have hend : (opsAt (Fw.els ns) b i).out = opsE (Fw.els ns) b := by rw [← hlm]; exact opsAt_end
  rw [hend] at hA
  exact ⟨[w6.heap.size], rfl, by simp, (fun D hD => by simp at hD; subst hD; exact def_chg hD_ hC14 (fun h => by have h : w6.heap.size = g9 := h; omega)), _, rfl, fun w_ hc => ⟨ov2, (by rw [hok]; rfl), (by rw [opsR, if_pos hok]; exact hA.ops.chg hc (fun k hk h => by simp at h; have := hf14 k hk; omega)), (fun q hq => by have := hf14 q hq; omega), hE.step hc (fun k h => by simp at h; omega)⟩⟩
 ·
  intro s_ e_ w18 hi_ hD_ hfin_ he_
  exact hi_.elim
end Go.Proofs.YtmehkigmnpjcjaaDoor
/- What must come: the texts of two versions, and of both together: alive, walked. No condition but the table of digest.keys. -/
namespace Go.Proofs.YtmehkigmnpjcjaaDoor
open Go.RowKit Go.Fw Go.Pl Go.Sort Go.Fu
def dA : Dig := ⟨[103, 39, 190, 109, 200, 245, 252, 100, 35, 38, 142, 176, 228, 9, 156, 198, 222, 165, 110, 116, 50, 72, 108, 164, 4, 134, 240, 226, 20, 255, 95, 253], rfl⟩
def oA : List OpD := [⟨1, false, RefD.zero, 104⟩, ⟨1, false, ⟨true, Dig.zero, 1⟩, 105⟩]
def oB : List OpD := [⟨1, false, ⟨false, dA, 2⟩, 33⟩]
abbrev TCo : TypeId := 29
theorem bs1_co (x : CoV) (w : World) : (Instr.buildSlice 22 1 [(0, coV x)].toArray).run Tryd.prog w = .ok (.slice (some ⟨w.heap.size, 0, none⟩) 1 1) (w.alloc (.cells (([x].map coC).flatten).toArray TCo)) := by
 obtain ⟨i, hi, hz, hs⟩ := info_apiCommitH
 have h := run_bs1 (P := Tryd.prog) (v := coV x) Tryd.underlying22 hi hz om_ om_ rfl (by rw [hs]; rfl) w
 simpa using h
theorem Blk.own9 {w : World} {g k m : Nat} {t : TypeId} {cs : List Value} (h : Blk w g t cs) (hl : cs.length = m * k) (hm : m ≤ maxLen) : Own w t k (.slice (some ⟨g, 0, none⟩) m m) cs := .inr ⟨g, m, m, [], (0, 0), rfl, (by have h9 : w.heap[g]? = _ := h; simpa using h9), by simp [hl], by omega, hm, by simp [hl], fun o _ => by simp⟩
theorem Blk.sl9 {w : World} {g k m : Nat} {t : TypeId} {α : Type} {enc : α → List Value} {l : List α} (h : Blk w g t ((l.map enc).flatten)) (he : ∀ x, (enc x).length = k) (hl : l.length = m) (hm : m ≤ 100) (hk : 0 < k) : Sl w enc k (.slice (some ⟨g, 0, none⟩) m m) l :=
 (Blk.own9 h (by rw [flat_length he, hl]) (by unfold maxLen; omega)).sl he hk
end Go.Proofs.YtmehkigmnpjcjaaDoor
/- Own, walked once more: what it makes is its own. No condition. -/
namespace Go.Proofs.YtmehkigmnpjcjaaDoor
open Go.RowKit Go.Fw Go.Pl
theorem own2_any (u : Value) (c : ComD) (w : World) (hc : Com w u c) (hp : c.parents.length * 32 ≤ 140737488351232) (ho : c.ops.length * 72 ≤ 140737488351232) : Calls Tryd.prog 9 #[u] w (Ret fun v w' => ∃ pv ov, v = .agg (comC pv c.author c.note ov).toArray ∧ Own w' 36 32 pv ((c.parents.map digC).flatten) ∧ Own w' 62 37 ov ((c.ops.map opC).flatten) ∧ (∀ k, pv.ownBlock = some k → w.heap.size ≤ k) ∧ (∀ k, ov.ownBlock = some k → w.heap.size ≤ k) ∧ c.author.size ≤ maxLen ∧ c.note.size ≤ maxLen ∧ Ext w w') := by
 obtain ⟨ic, hic, hzc⟩ := info_com
 obtain ⟨pv, ov, rfl, hpp, hoo, hau, hno⟩ := hc
 obtain ⟨Ap, cp, rfl, _, _⟩ := hpp.lens
 obtain ⟨Ao, co, rfl, _, _⟩ := hoo.lens
 refine calls_of_CWc 14 2 4 [(0, .agg (comC (.slice Ap c.parents.length cp) c.author c.note (.slice Ao c.ops.length co)).toArray)] Tryd.func9 rfl rfl rfl Tryd.underlying29 rfl kr_ (by simp) args1 ?_
 refine CW.sr fun K1 hK1 => ?_
 refine WL.box rfl rfl de_ fun g1 w1 hx1 hg1 hB1 => ?_
 have hlt1 := hB1.lt; have hz1 := hx1.size
 have hM1 := hB1.mem
 refine WL.alloc (hic) (hzc) rfl de_ fun g2 w2 hx2 hg2 hB2 => ?_
 have hlt2 := hB2.lt; have hz2 := hx2.size
 have hM2 := hB2.mem; have hB1 := hB1.ext hx2
 refine WL.nil (hK1 _ _ ?_); try clear hK1
 refine CW.sr fun K2 hK2 => ?_
 refine WL.st (St.buildSlice0 Tryd.underlying25 sz_dig) de_ fun v3 w3 hR3 => ?_
 obtain ⟨g3, rfl, hg3, hO3, hx3⟩ := hR3
 have hB1 := hB1.ext hx3
 have hB2 := hB2.ext hx3
 have hE3 := (hx1.thenExt hx2).thenExt hx3
 refine WL.v (Y.fieldAddr fo_apiCommit0 rfl) ?_
 refine WL.v (Y.load1 Tryd.underlying25 rfl hB1.mem.com0 rfl) ?_
 refine WL.st (St.append Tryd.underlying25 Tryd.underlying25 ai_dig rfl rfl hO3 ((hpp.ext hE3).src digC_length) (one_flat fun x => one_digC) (by simp; omega)) de_ fun v6 w4 hR4 => ?_
 obtain ⟨hO6, hc4, hf6⟩ := hR4
 have hS4 : ∀ k, (Value.slice (some ⟨g3, 0, none⟩) 0 0).ownBlock = some k → w2.heap.size ≤ k := fun k h => by simp [Value.ownBlock] at h; omega
 have hE4 : Ext w w4 := hE3.step hc4 (fun k h => by have := hS4 k h; omega)
 have hf6 : ∀ k, v6.ownBlock = some k → w2.heap.size ≤ k := by
  rcases hf6 with h | h
  ·
   intro k hk; rw [h] at hk; exact hS4 k hk
  ·
   intro k hk; have := h k hk; have := hx3.size; omega
 have hB1 := hB1.chg hc4 (fun h => by have := hS4 _ h; omega)
 have hB2 := hB2.chg hc4 (fun h => by have := hS4 _ h; omega)
 obtain ⟨A6, m6, c6, rfl⟩ := hO6.lens
 refine WL.v (Y.fieldAddr fo_apiCommit0 rfl) ?_
 refine WL.store (g := g1) (pre := []) (old := [.slice Ap c.parents.length cp]) (post := [.string c.author, .string c.note, .slice Ao c.ops.length co]) (new := [.slice A6 m6 c6]) rfl rfl rfl rfl kr_ hB1 ln_ (one1 rfl) (fun w5 hc5 hB5_ => ?_)
 have hB1 : Blk w5 g1 29 (comC (.slice A6 m6 c6) c.author c.note (.slice Ao c.ops.length co)) := hB5_
 have hE5 : Ext w w5 := hE4.step hc5 (fun k h => by omega)
 have hB2 := hB2.chg hc5 no_
 have hO6 := hO6.chg hc5 (fun k hk h => by have := hf6 k hk; omega)
 refine WL.nil (hK2 _ _ ?_); try clear hK2
 refine CW.sr fun K3 hK3 => ?_
 refine WL.st (St.buildSlice0 Tryd.underlying27 sz_op) de_ fun v8 w6 hR6 => ?_
 obtain ⟨g8, rfl, hg8, hO8, hx6⟩ := hR6
 have hB1 := hB1.ext hx6
 have hlt2 := hB2.lt
 have hB2 := hB2.ext hx6
 have hlt6 := hO6.lt
 have hO6 := hO6.ext hx6
 have hE6 := hE5.thenExt hx6
 have hsw := hE5.size
 refine WL.v (Y.fieldAddr fo_apiCommit3 rfl) ?_
 refine WL.v (Y.load1 Tryd.underlying27 rfl hB1.mem.com3 rfl) ?_
 refine WL.st (St.append Tryd.underlying27 Tryd.underlying27 ai_op rfl rfl hO8 ((hoo.ext hE6).src opC_length) (one_flat fun x => one_opC) (by simp; omega)) de_ fun v11 w7 hR7 => ?_
 obtain ⟨hO11, hc7, hf11⟩ := hR7
 have hS7 : ∀ k, (Value.slice (some ⟨g8, 0, none⟩) 0 0).ownBlock = some k → w5.heap.size ≤ k := fun k h => by simp [Value.ownBlock] at h; omega
 have hE7 : Ext w w7 := hE6.step hc7 (fun k h => by have := hS7 k h; omega)
 have hf11 : ∀ k, v11.ownBlock = some k → w5.heap.size ≤ k := by
  rcases hf11 with h | h
  ·
   intro k hk; rw [h] at hk; exact hS7 k hk
  ·
   intro k hk; have := h k hk; have := hx6.size; omega
 have hB1 := hB1.chg hc7 (fun h => by have := hS7 _ h; omega)
 have hB2 := hB2.chg hc7 (fun h => by have := hS7 _ h; omega)
 have hO6 := hO6.chg hc7 (fun k hk h => by have := hS7 _ h; have := hlt6 k hk; omega)
 obtain ⟨A11, m11, c11, rfl⟩ := hO11.lens
 refine WL.v (Y.fieldAddr fo_apiCommit3 rfl) ?_
 refine WL.store (g := g1) (pre := [.slice A6 m6 c6, .string c.author, .string c.note]) (old := [.slice Ao c.ops.length co]) (post := []) (new := [.slice A11 m11 c11]) rfl rfl rfl rfl kr_ hB1 ln_ (one1 rfl) (fun w8 hc8 hB8_ => ?_)
 have hB1 : Blk w8 g1 29 (comC (.slice A6 m6 c6) c.author c.note (.slice A11 m11 c11)) := hB8_
 have hE8 : Ext w w8 := hE7.step hc8 (fun k h => by omega)
 have hB2 := hB2.chg hc8 no_
 have hO6 := hO6.chg hc8 (fun k hk h => by have := hf6 k hk; omega)
 have hO11 := hO11.chg hc8 (fun k hk h => by have := hf11 k hk; have := hx6.size; omega)
 refine WL.nil (hK3 _ _ ?_); try clear hK3
 refine CW.sr fun K4 hK4 => ?_
 refine WL.v (Y.load Tryd.underlying29 rfl hB1.mem (sz_apiCommit _ _ _ _) rfl) ?_
 refine WL.store (g := g2) (pre := []) (old := comZ) (post := []) (new := comC (.slice A6 m6 c6) c.author c.note (.slice A11 m11 c11)) rfl rfl rfl rfl (sz_apiCommit _ _ _ _) (by simpa using hB2) ln_ (one_com) (fun w9 hc9 hB9_ => ?_)
 have hB9 : Blk w9 g2 29 (comC (.slice A6 m6 c6) c.author c.note (.slice A11 m11 c11)) := by simpa using hB9_
 have hE9 : Ext w w9 := hE8.step hc9 (fun k h => by omega)
 have hO6 := hO6.chg hc9 (fun k hk h => by have := hf6 k hk; omega)
 have hO11 := hO11.chg hc9 (fun k hk h => by have := hf11 k hk; omega)
 refine WL.nil (hK4 _ _ ?_); try clear hK4
 refine CW.ret ?_
 have hsz1 := hx1.size
 have hsz2 := hx2.size
 have hsz3 := hx3.size
 have hsz4 := hc4.size
 have hsz5 := hc5.size
 refine ⟨_, _, rfl, hB9.mem, rfl, _, _, rfl, by simpa using hO6, by simpa using hO11, fun k hk => by have := hf6 k hk; omega, fun k hk => by have := hf11 k hk; omega, hau, hno, hE9⟩
end Go.Proofs.YtmehkigmnpjcjaaDoor
/- own of a list of commits, walked. No condition but bounds. -/
namespace Go.Proofs.YtmehkigmnpjcjaaDoor
open Go.RowKit Go.Fw Go.Pl Go.Sort Go.Fu
theorem ai_co : AppInfo Tryd.prog 29 4 80 := by
 have h : (Tryd.prog.info? 29).map (fun i => (i.size, i.bytes, i.zero)) = some (4, 80, some (.agg comZ.toArray)) := by kernel_rfl
 obtain ⟨i, hi, h⟩ := Option.map_eq_some_iff.1 h
 injection h with h1 h2
 injection h2 with h2 h3
 exact ⟨i, _, hi, h3, h1, by show comZ.toArray.size = 4; rfl, h2, by decide, by decide⟩
structure CoOn (w : World) (x : CoV) : Prop where
 ps : Fw.Own w 36 32 x.pv ((x.c.parents.map digC).flatten)
 os : Fw.Own w 62 37 x.ov ((x.c.ops.map opC).flatten)
 au : x.c.author.size ≤ maxLen
 no : x.c.note.size ≤ maxLen
def CoOff (x : CoV) (k : Nat) : Prop := x.pv.ownBlock ≠ some k ∧ x.ov.ownBlock ≠ some k
theorem CoOn.ext {w w' : World} {x : CoV} (h : CoOn w x) (hc : Ext w w') : CoOn w' x := ⟨h.ps.ext hc, h.os.ext hc, h.au, h.no⟩
theorem CoOn.chg {w w' : World} {x : CoV} {S : Nat → Prop} (h : CoOn w x) (hc : Chg S w w') (hs : ∀ k, S k → CoOff x k) : CoOn w' x :=
 ⟨h.ps.chg hc fun k hk h => (hs k h).1 hk, h.os.chg hc fun k hk h => (hs k h).2 hk, h.au, h.no⟩
theorem CoOn.co {w : World} {x : CoV} (h : CoOn w x) : CoAt w x := ⟨h.ps.sl digC_length de_, h.os.sl opC_length de_, h.au, h.no⟩
theorem own2_cov {w w' : World} {c : ComD} {v : Value} {n : Nat} (h : ∃ pv ov, v = .agg (comC pv c.author c.note ov).toArray ∧ Fw.Own w' 36 32 pv ((c.parents.map digC).flatten) ∧ Fw.Own w' 62 37 ov ((c.ops.map opC).flatten) ∧ (∀ k, pv.ownBlock = some k → n ≤ k) ∧ (∀ k, ov.ownBlock = some k → n ≤ k) ∧ c.author.size ≤ maxLen ∧ c.note.size ≤ maxLen ∧ Ext w w') :
  ∃ y : CoV, v = coV y ∧ y.c = c ∧ CoOn w' y ∧ (∀ k, k < n → CoOff y k) ∧ Ext w w' := by
 obtain ⟨pv, ov, rfl, hp, ho, hfp, hfo, ha, hn, hx⟩ := h
 obtain ⟨A, ca, rfl, _⟩ := (hp.sl (xs := c.parents) digC_length de_).lens
 obtain ⟨B, cb, rfl, _⟩ := (ho.sl (xs := c.ops) opC_length de_).lens
 exact ⟨⟨c, A, ca, B, cb⟩, rfl, rfl, ⟨hp, ho, ha, hn⟩, fun k hk => ⟨fun e => by have := hfp k e; omega, fun e => by have := hfo k e; omega⟩, hx⟩
theorem one_coF {l : List CoV} : ∀ u ∈ (l.map coC).flatten, u.oneCell' = true := one_flat fun _ => one_coC
end Go.Proofs.YtmehkigmnpjcjaaDoor
/- edit.Commit, walked. No condition but bounds and the table of digest.keys. -/
namespace Go.Proofs.YtmehkigmnpjcjaaDoor
open Go.RowKit Go.Fw Go.Pl Go.Sort Go.Fu
theorem args5 {a b c d e : Value} : ∀ t v, Fr.get [(0, a), (1, b), (2, c), (3, d), (4, e)] t = some v → [a, b, c, d, e][t]? = some v := by
 intro t v h; match t, h with
 | 0, h => exact h
 | 1, h => exact h
 | 2, h => exact h
 | 3, h => exact h
 | 4, h => exact h
 | t + 5, h => exact h
def EcQ (w w' : World) (v : Value) (P : List ComD) (ids : List Dig) (au no : ByteArray) (b : List UInt8) : Prop := ∃ pv ov, v = .tuple #[.agg (comC pv (ecR P ids au no b).author (ecR P ids au no b).note ov).toArray, .int .i64 (ecE P ids au no b)] ∧ Fw.Own w' 36 32 pv (((ecR P ids au no b).parents.map digC).flatten) ∧ Fw.Own w' 62 37 ov (((ecR P ids au no b).ops.map opC).flatten) ∧ (∀ k, pv.ownBlock = some k → w.heap.size ≤ k) ∧ (∀ k, ov.ownBlock = some k → w.heap.size ≤ k) ∧ Ext w w'
theorem ec_bad {w w' : World} {P : List ComD} {ids : List Dig} {au no : ByteArray} {b : List UInt8} {e : Int} (h : ecE P ids au no b = e) (h0 : e ≠ 0) (hx : Ext w w') : EcQ w w' (.tuple #[.agg comZ.toArray, .int .i64 e]) P ids au no b := by
 have hr : ecR P ids au no b = nilC := by rw [ecR, if_neg (by rw [h]; exact h0)]
 refine ⟨.slice none 0 0, .slice none 0 0, by rw [hr, h]; rfl, by rw [hr]; exact Own.nil, by rw [hr]; exact Own.nil, fun k h => by simp [Value.ownBlock] at h, fun k h => by simp [Value.ownBlock] at h, hx⟩
theorem ec_good {w w' : World} {P : List ComD} {ids : List Dig} {au no : ByteArray} {b : List UInt8} {pv ov : Value} (h : ecE P ids au no b = 0) (hp : Fw.Own w' 36 32 pv (((mgL P ids []).map digC).flatten)) (ho : Fw.Own w' 62 37 ov (((opsE (trH P ids).e b).map opC).flatten)) (h1 : ∀ k, pv.ownBlock = some k → w.heap.size ≤ k) (h2 : ∀ k, ov.ownBlock = some k → w.heap.size ≤ k) (hx : Ext w w') : EcQ w w' (.tuple #[.agg (comC pv au no ov).toArray, .int .i64 0]) P ids au no b := by
 have hr : ecR P ids au no b = ecC P ids au no b := by rw [ecR, if_pos h]
 refine ⟨pv, ov, by rw [hr, h]; rfl, by rw [hr]; exact hp, by rw [hr]; exact ho, h1, h2, hx⟩
theorem build_comG (A : Option Addr) (m c : Nat) (au no : ByteArray) (B : Option Addr) (n d : Nat) (w : World) : (Instr.build 29 [(0, Value.slice A m c), (1, Value.string au), (2, Value.string no), (3, Value.slice B n d)].toArray).run Tryd.prog w = .ok (.agg (comC (.slice A m c) au no (.slice B n d)).toArray) w := run_build w _ _ _ kr_
set_option maxRecDepth 100000 in
set_option maxHeartbeats 2000000 in
theorem ecommit_any (u v0 : Value) (l : List CoV) (ids : List Dig) (au no : ByteArray) (b : List UInt8) (w : World) (hl : Hcs w u l) (hd : Sl w digC 32 v0 ids) (hdl : ids.length ≤ 1048576) (hau : au.size ≤ maxLen) (hno : no.size ≤ maxLen) (hb : b.length < 4611686018427387904) (hK : Mem w ⟨0, 0, none⟩ (wds keysL)) : Calls Tryd.prog 5 #[u, v0, .string au, .string no, .string (bs b)] w (Ret fun v w' => EcQ w w' v (csL l) ids au no b) := by
 obtain ⟨ci_, hci, hcz, hcs⟩ := info_apiCommitH
 refine calls_of_CWct 62 10 4 [11] [(0, u), (1, v0), (2, .string au), (3, .string no), (4, .string (bs b))] Tryd.func5 rfl rfl rfl Tryd.underlying29 rfl kr_ (by simp) args5 ?_
 have hE : Ext w w := Chg.refl
 refine CW.sr fun K1 hK1 => ?_
 refine WL.alloc (hci) (hcz) rfl de_ fun g10 w1 hx1 hg10 hB10 => ?_
 have hlt10 := hB10.lt; have hz1 := hx1.size
 have hM10 := hB10.mem; have hz1 := hx1.size; have hE := hE.thenExt hx1
 refine WL.a rfl ?_
 refine WL.nil (hK1 _ _ ?_); try clear hK1
 refine CW.sr fun K2 hK2 => ?_
 refine WL.m rfl ?_
 refine WL.m rfl ?_
 refine WL.call Tryd.func12 rfl rfl rfl (hmerge_any _ _ _ l ids [] _ (hl.ext hE) (hd.ext hE) Sl.nil (by simp; omega) (hK.ext hE)) (by simp) ?_; rintro v19 w2 hR2
 obtain ⟨hv2, rfl, hO2, hfu2, hx2⟩ := hR2
 have hz2 := hx2.size
 have hE := hE.thenExt hx2
 have hB10 : Blk w2 g10 29 comZ := hB10.ext hx2
 obtain ⟨A2, n2, c2, rfl⟩ := hO2.lens
 refine WL.m rfl ?_
 refine WL.v (Y.extract rfl rfl) ?_
 refine WL.v (Y.extract rfl rfl) ?_
 refine WL.a rfl ?_
 refine WL.a rfl ?_
 refine WL.nil (hK2 _ _ ?_); try clear hK2
 refine CW.seq fun K3 hK3 => ?_
 refine CW.block ?_
 refine CW.sr fun K4 hK4 => ?_
 refine WL.m rfl ?_
 refine WL.v (Y.neq rfl rfl) ?_
 refine WL.a rfl ?_
 refine WL.nil (hK4 _ _ ?_); try clear hK4
 (first | refine cd_ rfl ?_ ?_ | refine ce_ rfl ?_ ?_ | refine cn_ rfl ?_ ?_ | refine cb_ rfl ?_ ?_) <;> intro ht5
 ·
  -- then
  refine CW.sr fun K6 hK6 => ?_
  refine WL.v (Y.build0 (build_apiCommit _)) ?_
  refine WL.m rfl ?_
  refine WL.store (g := g10) (pre := []) (old := comZ) (post := []) (new := comZ) rfl rfl rfl rfl (sz_apiCommit _ _ _ _) (by simpa using hB10) ln_ (one_com) (fun w3 hc3 hB3_ => ?_)
  have hz3 := hc3.size; have hE := hE.step hc3 (fun k h => by omega)
  have hB10 : Blk w3 g10 29 comZ := by simpa using hB3_
  refine WL.a rfl ?_
  refine WL.nil (hK6 _ _ ?_); try clear hK6
  refine CW.ret ?_
  exact ⟨_, _, _, rfl, hB10.mem, rfl, rfl, ec_bad (by rw [ecE, if_pos (by assumption)]) (by assumption) hE⟩
 refine CW.seq fun K7 hK7 => ?_
 have hm0 : mgE (csL l) ids [] = 0 := Decidable.not_not.1 (by assumption)
 refine CW.region ?_
 refine WL.m rfl ?_
 refine WL.call Tryd.func15 rfl rfl rfl (name_any au _ hau) (by simp) ?_; rintro v w4 ⟨rfl, hx4⟩; have hz4 := hx4.size; have hE := hE.thenExt hx4; have hB10 := hB10.ext hx4
 refine WL.v (Y.not rfl) ?_
 refine WL.a rfl ?_
 refine WL.nil (hK7 _ _ ?_); try clear hK7
 (first | refine cd_ rfl ?_ ?_ | refine ce_ rfl ?_ ?_ | refine cn_ rfl ?_ ?_ | refine cb_ rfl ?_ ?_) <;> intro ht8
 ·
  -- then
  refine CW.sr fun K9 hK9 => ?_
  refine WL.v (Y.build0 (build_apiCommit _)) ?_
  refine WL.store (g := g10) (pre := []) (old := comZ) (post := []) (new := comZ) rfl rfl rfl rfl (sz_apiCommit _ _ _ _) (by simpa using hB10) ln_ (one_com) (fun w5 hc5 hB5_ => ?_)
  have hz5 := hc5.size; have hE := hE.step hc5 (fun k h => by omega)
  have hB10 : Blk w5 g10 29 comZ := by simpa using hB5_
  refine WL.a rfl ?_
  refine WL.nil (hK9 _ _ ?_); try clear hK9
  refine CW.ret ?_
  exact ⟨_, _, _, rfl, hB10.mem, rfl, rfl, ec_bad (by rw [ecE, if_neg (fun h => h hm0), if_pos (by simp_all)]) de_ hE⟩
 refine CW.seq fun K10 hK10 => ?_
 have hn1 : ¬ nameB au.toList = false := by simp_all
 refine CW.region ?_
 refine WL.m rfl ?_
 refine WL.v (Y.len_string Tryd.underlying9 rfl) ?_
 refine WL.v (Y.gtr rfl rfl) ?_
 refine WL.a rfl ?_
 refine WL.nil (hK10 _ _ ?_); try clear hK10
 (first | refine cd_ rfl ?_ ?_ | refine ce_ rfl ?_ ?_ | refine cn_ rfl ?_ ?_ | refine cb_ rfl ?_ ?_) <;> intro ht11
 ·
  -- then
  refine CW.sr fun K12 hK12 => ?_
  refine WL.v (Y.build0 (build_apiCommit _)) ?_
  refine WL.store (g := g10) (pre := []) (old := comZ) (post := []) (new := comZ) rfl rfl rfl rfl (sz_apiCommit _ _ _ _) (by simpa using hB10) ln_ (one_com) (fun w6 hc6 hB6_ => ?_)
  have hz6 := hc6.size; have hE := hE.step hc6 (fun k h => by omega)
  have hB10 : Blk w6 g10 29 comZ := by simpa using hB6_
  refine WL.a rfl ?_
  refine WL.nil (hK12 _ _ ?_); try clear hK12
  refine CW.ret ?_
  exact ⟨_, _, _, rfl, hB10.mem, rfl, rfl, ec_bad (by rw [ecE, if_neg (fun h => h hm0), if_neg hn1, if_pos om_]) de_ hE⟩
 refine CW.skip ?_
 refine hK3 _ _ ?_; try clear hK3
 refine CW.seq fun K13 hK13 => ?_
 have hn2 : ¬ 200 < no.size := by omega
 refine CW.region ?_
 refine WL.m rfl ?_
 refine WL.m rfl ?_
 refine WL.call Tryd.func16 rfl rfl rfl (htree_any _ _ l ids _ (hl.ext hE) (hd.ext hE) (hK.ext hE)) (by simp) ?_; rintro v40 w7 hR7
 obtain ⟨p7, rfl, hbad7, hgood7, hx7⟩ := hR7
 have hz7 := hx7.size
 have hE := hE.thenExt hx7
 have hB10 := hB10.ext hx7
 have hO2 := (hO2.ext hx4).ext hx7
 obtain ⟨g, rb, ra, ns, rfl, hT⟩ := hgood7 (ec_tx hm0)
 rw [ec_tx hm0]
 obtain ⟨hp_, hk_, _⟩ := txE_ok.1 (ec_tx hm0)
 have htr := trH_ok hk_ hp_ ids
 have hG : Fu.Good (Fw.els ns) := by rw [hT.els]; exact htr.good
 have hn_ : ns.length ≤ 400001 := by rw [← hT.len]; exact htr.few
 refine WL.m rfl ?_
 refine WL.v (Y.extract rfl rfl) ?_
 refine WL.v (Y.extract rfl rfl) ?_
 refine WL.a rfl ?_
 refine WL.a rfl ?_
 refine WL.nil (hK13 _ _ ?_); try clear hK13
 refine CW.seq fun K14 hK14 => ?_
 refine CW.sr fun K15 hK15 => ?_
 refine WL.m rfl ?_
 refine WL.v (Y.neq rfl rfl) ?_
 refine WL.nil (hK15 _ _ ?_); try clear hK15
 (first | refine cd_ rfl ?_ ?_ | refine ce_ rfl ?_ ?_ | refine cn_ rfl ?_ ?_ | refine cb_ rfl ?_ ?_) <;> intro ht16
 ·
  -- then
  refine CW.sr fun K17 hK17 => ?_
  refine WL.v (Y.build0 (build_apiCommit _)) ?_
  refine WL.m rfl ?_
  refine WL.store (g := g10) (pre := []) (old := comZ) (post := []) (new := comZ) rfl rfl rfl rfl (sz_apiCommit _ _ _ _) (by simpa using hB10) ln_ (one_com) (fun w8 hc8 hB8_ => ?_)
  have hz8 := hc8.size; have hE := hE.step hc8 (fun k h => by omega)
  have hB10 : Blk w8 g10 29 comZ := by simpa using hB8_
  refine WL.a rfl ?_
  refine WL.nil (hK17 _ _ ?_); try clear hK17
  refine CW.ret ?_
  exact absurd rfl (by assumption)
 refine CW.skip ?_
 refine hK14 _ _ ?_; try clear hK14
 refine CW.sr fun K18 hK18 => ?_
 refine WL.m rfl ?_
 refine WL.m rfl ?_
 refine WL.call Tryd.func17 rfl rfl rfl (fops_any g rb ra _ ns b _ hT.ft hG hn_ hb) (by simp) ?_; rintro v50 w9 hR9
 obtain ⟨ov, rfl, hO9, hf9, hx9⟩ := hR9
 have hz9 := hx9.size
 have hE := hE.thenExt hx9
 have hB10 := hB10.ext hx9
 have hO2 := hO2.ext hx9
 have hte : textE (Fw.els ns) = txL (csL l) ids := by rw [hT.els, ec_txL hm0]
 rw [opsR, hte, hT.els] at hO9
 rw [hte]
 obtain ⟨A9, n9, c9, rfl⟩ := hO9.lens
 refine WL.m rfl ?_
 refine WL.v (Y.extract rfl rfl) ?_
 refine WL.v (Y.extract rfl rfl) ?_
 refine WL.a rfl ?_
 refine WL.a rfl ?_
 refine WL.nil (hK18 _ _ ?_); try clear hK18
 refine CW.seq fun K19 hK19 => ?_
 refine CW.sr fun K20 hK20 => ?_
 refine WL.m rfl ?_
 refine WL.v (Y.neq rfl rfl) ?_
 refine WL.nil (hK20 _ _ ?_); try clear hK20
 (first | refine cd_ rfl ?_ ?_ | refine ce_ rfl ?_ ?_ | refine cn_ rfl ?_ ?_ | refine cb_ rfl ?_ ?_) <;> intro ht21
 ·
  -- then
  refine CW.sr fun K22 hK22 => ?_
  refine WL.v (Y.build0 (build_apiCommit _)) ?_
  refine WL.m rfl ?_
  refine WL.store (g := g10) (pre := []) (old := comZ) (post := []) (new := comZ) rfl rfl rfl rfl (sz_apiCommit _ _ _ _) (by simpa using hB10) ln_ (one_com) (fun w10 hc10 hB10_ => ?_)
  have hz10 := hc10.size; have hE := hE.step hc10 (fun k h => by omega)
  have hB10 : Blk w10 g10 29 comZ := by simpa using hB10_
  refine WL.a rfl ?_
  refine WL.nil (hK22 _ _ ?_); try clear hK22
  refine CW.ret ?_
  exact ⟨_, _, _, rfl, hB10.mem, rfl, rfl, ec_bad (by rw [ecE, if_neg (fun h => h hm0), if_neg hn1, if_neg hn2]) (by assumption) hE⟩
 refine CW.skip ?_
 refine hK19 _ _ ?_; try clear hK19
 refine CW.sr fun K23 hK23 => ?_
 refine WL.m rfl ?_
 refine WL.m rfl ?_
 refine WL.m rfl ?_
 refine WL.m rfl ?_
 refine WL.v (Y.build rfl (build_comG _ _ _ _ _ _ _ _ _)) ?_
 refine WL.store (g := g10) (pre := []) (old := comZ) (post := []) (new := comC (.slice A2 n2 c2) au no (.slice A9 n9 c9)) rfl rfl rfl rfl (sz_apiCommit _ _ _ _) (by simpa using hB10) ln_ (one4 rfl rfl rfl rfl) (fun w11 hc11 hB11_ => ?_)
 have hz11 := hc11.size; have hE := hE.step hc11 (fun k h => by omega)
 have hB10 : Blk w11 g10 29 (comC (.slice A2 n2 c2) au no (.slice A9 n9 c9)) := by simpa using hB11_
 refine WL.a rfl ?_
 refine WL.nil (hK23 _ _ ?_); try clear hK23
 refine CW.ret ?_
 have he0 : mkErr (txL (csL l) ids) b = 0 := by omega
 rw [if_pos he0] at hO9
 exact ⟨_, _, _, rfl, hB10.mem, rfl, rfl, ec_good (by rw [ecE, if_neg (fun h => h hm0), if_neg hn1, if_neg hn2, he0]; rfl) (hO2.chg hc11 (fun k hk h => by have := hfu2 k hk; omega)) (hO9.chg hc11 (fun k hk h => by have := hf9 k hk; omega)) (fun k hk => by have := hfu2 k hk; omega) (fun k hk => by have := hf9 k hk; omega) hE⟩
end Go.Proofs.YtmehkigmnpjcjaaDoor
