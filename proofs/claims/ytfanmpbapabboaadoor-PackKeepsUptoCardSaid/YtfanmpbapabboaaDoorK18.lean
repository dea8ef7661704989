/- Parts of a proof: what its last text leans on. No condition. -/
import Derived.Test.YtfanmpbapabboaaDoorK05
import Derived.Test.YtfanmpbapabboaaDoorK08
import Derived.Test.YtfanmpbapabboaaDoorK13
import Derived.Test.YtfanmpbapabboaaDoorK14
import Derived.Test.YtfanmpbapabboaaDoorK15
import Derived.Test.YtfanmpbapabboaaDoorK17
set_option linter.unusedSimpArgs false
set_option linter.unusedVariables false
/- A delta is read: delta.reader's methods and Apply, walked. No condition. -/
namespace Go.Fw
section
variable {w : World} {a : Addr} {u v x : Value} (h : Mem w a [u, v, x])
include h
theorem Mem.deltareader0 : w.cell? (a.add 0) = some u := h.cell 0 rfl
theorem Mem.deltareader1 : w.cell? (a.add 1) = some v := h.cell 1 rfl
theorem Mem.deltareader2 : w.cell? (a.add 2) = some x := h.cell 2 rfl
end
theorem Src.cut {P : Program} {w : World} {a : Addr} {m c i j : Nat} {bs : List UInt8} (h : By w (.slice (some a) m c) bs) (h1 : i < j) (h2 : j ≤ m) : Src P w 1 (.slice (some (if c = i then a else a.add (i * 1))) (j - i) (c - i)) (j - i) (bytesC ((bs.drop i).take (j - i))) := by
 obtain ⟨hl, hc, _⟩ := h.len
 obtain ⟨a', ha, hm⟩ := h.mem.1 om_
 cases ha
 exact Src.slice (by rw [bytesC_length, List.length_take, List.length_drop]; omega) fun _ => ⟨_, rfl, By.slMem hm hl hc h1 h2⟩
end Go.Fw
namespace Go.Proofs.YtfanmpbapabboaaDoor
open Go.RowKit Go.Fw Go.Pl
abbrev TDr : TypeId := 131
theorem fo_deltareader0 : FieldOff Tryd.prog TDr 0 0 := ⟨_, _, 1, Tryd.underlying131, rfl, by kernel_rfl, by decide, rfl⟩
theorem fo_deltareader1 : FieldOff Tryd.prog TDr 1 1 := ⟨_, _, 1, Tryd.underlying131, rfl, by kernel_rfl, by decide, rfl⟩
theorem fo_deltareader2 : FieldOff Tryd.prog TDr 2 2 := ⟨_, _, 1, Tryd.underlying131, rfl, by kernel_rfl, by decide, rfl⟩
theorem build_dreader (A : Option Addr) (m c : Nat) (w : World) : (Instr.build TDr [(0, Value.slice A m c)].toArray).run Tryd.prog w = .ok (.agg [Value.slice A m c, .int .i64 0, .int .i64 0].toArray) w := run_build w _ _ _ kr_
theorem info_dr : ∃ i : TypeInfo, Tryd.prog.info? TDr = some i ∧ i.zero = some (.agg #[.slice none 0 0, .int .i64 0, .int .i64 0]) ∧ i.size = 3 := by
 have h : (Tryd.prog.info? TDr).map (fun i => (i.zero, i.size)) = some (some (.agg #[.slice none 0 0, .int .i64 0, .int .i64 0]), 3) := by kernel_rfl
 obtain ⟨i, hi, h⟩ := Option.map_eq_some_iff.1 h
 obtain ⟨h1, h2⟩ := Prod.mk.inj h
 exact ⟨i, hi, h1, h2⟩
theorem as_deltareader {n : NN} {Φ : Exit → Fr → World → Prop} {fr : Fr} {w : World} {ops : Array Oper} {rest : List Oper} {d : Nat} {x : Operand} {ty ty' : TypeId} {pos pos' : String} {aft aft' : Array Edge} {A : Option Addr} {m c : Nat} {p q : Int}
  (hx : ev fr x = some (.agg [Value.slice A m c, .int .i64 p, .int .i64 q].toArray)) (hxd : x ≠ .tmp d) (hd : d < n.1)
  (h : ∀ g w', Ext w w' → w.heap.size ≤ g → Blk w' g TDr [Value.slice A m c, .int .i64 p, .int .i64 q] → WL Tryd.prog ops n Φ rest ((d, .pointer (some ⟨g, 0, none⟩)) :: fr) w') :
  WL Tryd.prog ops n Φ (⟨some d, .alloc TDr, ty, pos, aft, none⟩ :: ⟨none, .store TDr (.tmp d) x, ty', pos', aft', none⟩ :: rest) fr w := by
 obtain ⟨i, hi, hz, hs⟩ := info_dr
 exact WL.allocStore (zs := [.slice none 0 0, .int .i64 0, .int .i64 0]) (cs := [Value.slice A m c, .int .i64 p, .int .i64 q]) hi hz rfl (by rw [hs]; rfl) rfl hx hxd rfl (by intro u hu; simp at hu; rcases hu with rfl | rfl | rfl <;> rfl) hd h
theorem ite_iff {α : Type} {p q : Prop} [Decidable p] [Decidable q] {a b : α} (h : p ↔ q) : (if p then a else b) = (if q then a else b) := by
 by_cases hp : p
 ·
  rw [if_pos hp, if_pos (h.1 hp)]
 ·
  rw [if_neg hp, if_neg (fun x => hp (h.2 x))]
theorem gnum_numR {d : List UInt8} {at_ : Nat} : ∃ n a : Nat, ∃ e1 : Int, NumR d at_ 0 n a e1 ∧ gN d at_ = (n : Int) ∧ gX d at_ = (a : Int) ∧ gE d at_ = e1 := by
 by_cases h : gE d at_ = 0
 ·
  obtain ⟨n, nx, hg, h1, h2⟩ := gE_zero h
  exact ⟨n, nx, 0, .inl ⟨rfl, rfl, hg⟩, h1, h2, h⟩
 ·
  obtain ⟨hg, h1, h2⟩ := gE_ne h
  exact ⟨0, 0, gE d at_, .inr (.inl ⟨rfl, h, hg, rfl, rfl⟩), h1, h2, rfl⟩
theorem drefuse_any (g : Nat) (dv : Value) (at_ e : Int) (b : Bool) (x : Int) (w : World) (hB : Blk w g TDr [dv, .int .i64 at_, .int .i64 e]) : Calls Tryd.prog 64 #[.pointer (some ⟨g, 0, none⟩), .bool b, .int .i64 x] w (Ret fun r w' => r = .tuple #[] ∧ Blk w' g TDr [dv, .int .i64 at_, .int .i64 (refE e b x)] ∧ Chg (· = g) w w') := by
 refine calls_of_CW 18 [] [(0, .pointer (some ⟨g, 0, none⟩)), (1, .bool b), (2, .int .i64 x)] Tryd.func64 rfl rfl rfl (by simp) args3 ?_
 have hE : Chg (fun k => k = g) w w := Chg.refl
 refine CW.seq_test 13 (e = 0 ∧ b = true) ?_ ?_
 ·
  refine CW.region ?_
  refine WL.m rfl ?_
  refine WL.v (Y.nilCheck rfl) ?_
  refine WL.v (Y.fieldAddr fo_deltareader2 rfl) ?_
  refine WL.v (Y.load1 Tryd.underlying24 rfl hB.mem.deltareader2 rfl) ?_
  refine WL.v (Y.eql rfl rfl) ?_
  refine WL.m rfl ?_
  (first | refine WL.casesD (d := 11) rfl ?_ ?_ | refine WL.casesND (d := 11) rfl ?_ ?_ | refine WL.cases (d := 11) rfl ?_ ?_) <;> intro hg11
  ·
   -- t11 = T
   refine WL.g rfl rfl (Y.move rfl) ?_
   refine WL.v (Y.pick rfl rfl) ?_
   refine WL.nil ⟨⟨_, rfl, ?_⟩, rfl, Fr.okp⟩
   exact tst_ok
  ·
   -- t11 = F
   refine WL.o rfl rfl ?_
   refine WL.v (Y.pick rfl rfl) ?_
   refine WL.nil ⟨⟨_, rfl, ?_⟩, rfl, Fr.okp⟩
   exact tst_ok
 (first | refine cd_ rfl ?_ ?_ | refine ce_ rfl ?_ ?_ | refine cn_ rfl ?_ ?_ | refine cb_ rfl ?_ ?_) <;> intro ht1
 ·
  -- then
  refine CW.region ?_
  refine WL.m rfl ?_
  refine WL.m rfl ?_
  refine WL.v (Y.nilCheck rfl) ?_
  refine WL.v (Y.fieldAddr fo_deltareader2 rfl) ?_
  refine WL.store (g := g) (pre := [dv, .int .i64 at_]) (old := [.int .i64 e]) (post := []) (new := [.int .i64 x]) rfl rfl rfl rfl kr_ (by simpa using hB) ln_ (one1 rfl) (fun w1 hc1 hB1_ => ?_)
  have hz1 := hc1.size; have hE := hE.stepO hc1 (fun k h => (by show (k = g) ∨ _; omega))
  skip
  refine WL.nil ?_
  refine ⟨_, rfl, ?_⟩
  exact ⟨rfl, by rw [refE, if_pos (by assumption)]; simpa using hB1_, hE⟩
 refine CW.skip ?_
 refine ⟨_, rfl, ?_⟩
 exact ⟨rfl, by rw [refE, if_neg (by assumption)]; exact hB, hE⟩
theorem dnum_any (g : Nat) (dv : Value) (d : List UInt8) (at_ : Nat) (e : Int) (w : World) (hB : Blk w g TDr [dv, .int .i64 (at_ : Int), .int .i64 e]) (hb : By w dv d) (hbg : d ≠ [] → ∀ k, dv.ownBlock = some k → k ≠ g) (hat : at_ ≤ d.length) : Calls Tryd.prog 65 #[.pointer (some ⟨g, 0, none⟩)] w (Ret fun r w' => ∃ n a : Nat, ∃ e1 : Int, NumR d at_ e n a e1 ∧ r = .int .i64 (n : Int) ∧ Blk w' g TDr [dv, .int .i64 (a : Int), .int .i64 e1] ∧ Chg (· = g) w w') := by
 obtain ⟨n, a, e1, hN, h1, h2, h3⟩ := gnum_numR (d := d) (at_ := at_)
 refine calls_of_CW 33 [2] [(0, .pointer (some ⟨g, 0, none⟩))] Tryd.func65 rfl rfl rfl (by simp) args1 ?_
 have hE : Chg (fun k => k = g) w w := Chg.refl
 refine CW.sr fun K1 hK1 => ?_
 refine WL.a rfl ?_
 refine WL.nil (hK1 _ _ ?_); try clear hK1
 refine CW.seq fun K2 hK2 => ?_
 refine CW.sr fun K3 hK3 => ?_
 refine WL.m rfl ?_
 refine WL.v (Y.nilCheck rfl) ?_
 refine WL.v (Y.fieldAddr fo_deltareader2 rfl) ?_
 refine WL.v (Y.load1 Tryd.underlying24 rfl hB.mem.deltareader2 rfl) ?_
 refine WL.v (Y.neq rfl rfl) ?_
 refine WL.nil (hK3 _ _ ?_); try clear hK3
 (first | refine cd_ rfl ?_ ?_ | refine ce_ rfl ?_ ?_ | refine cn_ rfl ?_ ?_ | refine cb_ rfl ?_ ?_) <;> intro ht4
 ·
  -- then
  refine CW.sr fun K5 hK5 => ?_
  refine WL.a rfl ?_
  refine WL.nil (hK5 _ _ ?_); try clear hK5
  refine CW.ret ⟨_, rfl, ?_⟩
  exact ⟨0, at_, e, .inr (.inr ⟨by assumption, rfl, rfl, rfl⟩), rfl, hB, hE⟩
 refine CW.skip ?_
 refine hK2 _ _ ?_; try clear hK2
 refine CW.seq fun K6 hK6 => ?_
 refine CW.quiet (fun wq => Ext w wq) kr_ kr_ Chg.drew ?_
 refine QL.m rfl ?_
 refine QL.v (fun wq hq => Y.nilCheck rfl) ?_
 refine QL.v (fun wq hq => Y.fieldAddr fo_deltareader0 rfl) ?_
 refine QL.v (fun wq hq => Y.load1 Tryd.underlying32 rfl (hB.ext hq).mem.deltareader0 rfl) ?_
 refine QL.m rfl ?_
 refine QL.v (fun wq hq => Y.nilCheck rfl) ?_
 refine QL.v (fun wq hq => Y.fieldAddr fo_deltareader1 rfl) ?_
 refine QL.v (fun wq hq => Y.load1 Tryd.underlying3 rfl (hB.ext hq).mem.deltareader1 rfl) ?_
 refine QL.call Tryd.func51 rfl rfl rfl (fun wq hq => ret_ext (getNum_t _ d at_ _ (hb.ext hq) hat) hq) (by simp) ?_
 refine QL.m rfl ?_
 refine QL.v (fun wq hq => Y.extract rfl rfl) ?_
 refine QL.v (fun wq hq => Y.extract rfl rfl) ?_
 refine QL.v (fun wq hq => Y.extract rfl rfl) ?_
 refine QL.a rfl ?_
 refine QL.a rfl ?_
 refine QL.a rfl ?_
 refine QL.nil fun w1 hx1 => ?_
 have hz1 := hx1.size
 have hE := hE.thenExt hx1
 have hB := hB.ext hx1
 refine hK6 _ _ ?_; try clear hK6
 refine CW.sr fun K7 hK7 => ?_
 refine WL.m rfl ?_
 refine WL.m rfl ?_
 refine WL.m rfl ?_
 refine WL.m rfl ?_
 refine WL.v (Y.nilCheck rfl) ?_
 refine WL.v (Y.fieldAddr fo_deltareader1 rfl) ?_
 refine WL.store (g := g) (pre := [dv]) (old := [.int .i64 (at_ : Int)]) (post := [.int .i64 e]) (new := [.int .i64 (gX d at_)]) rfl rfl rfl rfl kr_ (by simpa using hB) ln_ (one1 rfl) (fun w2 hc2 hB2_ => ?_)
 have hz2 := hc2.size; have hE := hE.stepO hc2 (fun k h => (by show (k = g) ∨ _; omega))
 have hB2 : Blk w2 g TDr [dv, .int .i64 (gX d at_), .int .i64 e] := by simpa using hB2_
 refine WL.v (Y.nilCheck rfl) ?_
 refine WL.v (Y.fieldAddr fo_deltareader2 rfl) ?_
 refine WL.store (g := g) (pre := [dv, .int .i64 (gX d at_)]) (old := [.int .i64 e]) (post := []) (new := [.int .i64 (gE d at_)]) rfl rfl rfl rfl kr_ (by simpa using hB2) ln_ (one1 rfl) (fun w3 hc3 hB3_ => ?_)
 have hz3 := hc3.size; have hE := hE.stepO hc3 (fun k h => (by show (k = g) ∨ _; omega))
 skip
 refine WL.nil (hK7 _ _ ?_); try clear hK7
 refine CW.sr fun K8 hK8 => ?_
 refine WL.m rfl ?_
 refine WL.a rfl ?_
 refine WL.nil (hK8 _ _ ?_); try clear hK8
 refine CW.ret ⟨_, rfl, ?_⟩
 have he : e = 0 := Decidable.not_not.1 (by assumption)
 exact ⟨n, a, e1, by rw [he]; exact hN, by rw [← h1]; rfl, by rw [h2, h3] at hB3_; simpa using hB3_, hE⟩
set_option maxRecDepth 100000 in
set_option maxHeartbeats 4000000 in
theorem apply_any (u v : Value) (base d : List UInt8) (w : World) (hu : By w u base) (hv : By w v d) : Calls Tryd.prog 54 #[u, v] w (Ret fun r w' => ∃ x, r = .tuple #[x, .int .i64 (apB base d).2] ∧ Own w' 5 1 x (bytesC (apB base d).1) ∧ (∀ k, x.ownBlock = some k → w.heap.size ≤ k) ∧ Ext w w') := by
 have hul := hu.ltB
 have hvl := hv.ltB
 have hu0 := hu
 have hv0 := hv
 obtain ⟨A, m, c, rfl⟩ := hu.lens
 obtain ⟨B, n, cb, rfl⟩ := hv.lens
 obtain ⟨hm, hmc, hcm⟩ := hu.len
 obtain ⟨hn, hnc, hncm⟩ := hv.len
 unfold maxLen at hcm hncm
 refine calls_of_CW 115 [4, 5] [(0, .slice A m c), (1, .slice B n cb)] Tryd.func54 rfl rfl rfl (by simp) args2 ?_
 have hE : Ext w w := Chg.refl
 refine CW.sr fun K1 hK1 => ?_
 refine WL.a rfl ?_
 refine WL.a rfl ?_
 refine WL.nil (hK1 _ _ ?_); try clear hK1
 refine CW.seq fun K2 hK2 => ?_
 refine CW.sr fun K3 hK3 => ?_
 refine WL.m rfl ?_
 refine WL.v (Y.len_slice Tryd.underlying32 rfl) ?_
 refine WL.v (Y.gtr rfl rfl) ?_
 refine WL.nil (hK3 _ _ ?_); try clear hK3
 (first | refine cd_ rfl ?_ ?_ | refine ce_ rfl ?_ ?_ | refine cn_ rfl ?_ ?_ | refine cb_ rfl ?_ ?_) <;> intro ht4
 ·
  -- then
  refine CW.sr fun K5 hK5 => ?_
  refine WL.a rfl ?_
  refine WL.a rfl ?_
  refine WL.nil (hK5 _ _ ?_); try clear hK5
  refine CW.ret ⟨_, rfl, ?_⟩
  have hc : 4096 < base.length := by omega
  exact ⟨_, by rw [apB, if_pos hc], by rw [apB, if_pos hc]; exact Own.nil, (fun k hk => by cases hk), hE⟩
 refine CW.skip ?_
 refine hK2 _ _ ?_; try clear hK2
 refine CW.sr fun K6 hK6 => ?_
 refine WL.m rfl ?_
 refine WL.v (Y.build rfl (build_dreader _ _ _ _)) ?_
 refine as_deltareader rfl (by simp) de_ fun g6 w1 hx1 hg6 hB6 => ?_
 have hlt6 := hB6.lt; have hz1 := hx1.size
 have hM6 := hB6.mem; have hz1 := hx1.size; have hE := hE.thenExt hx1
 refine WL.nil (hK6 _ _ ?_); try clear hK6
 refine CW.sr fun K7 hK7 => ?_
 refine WL.call Tryd.func65 rfl rfl rfl (dnum_any g6 _ d 0 0 _ hB6 (hv.ext hx1) (fun h0 k hk => by have := hvl h0 k hk; omega) (Nat.zero_le _)) (by simp) ?_; rintro v17 w2 hR2
 obtain ⟨n1, a1, e1, hN2, rfl, hB6, hc2⟩ := hR2
 have hz2 := hc2.size
 have hE := hE.step hc2 (fun k h => by have h : k = g6 := h; omega)
 have hv := hv0.ext hE
 have hu := hu0.ext hE
 obtain ⟨hle2, hlt2⟩ := hN2.le (show 0 ≤ d.length by omega)
 refine WL.m rfl ?_
 refine WL.v (Y.len_slice Tryd.underlying32 rfl) ?_
 refine WL.v (Y.neq rfl rfl) ?_
 refine WL.call Tryd.func64 rfl rfl rfl (drefuse_any g6 _ (a1 : Int) e1 _ 1 _ hB6) (by simp) ?_; rintro v21 w3 hR3
 obtain ⟨rfl, hB6, hc3⟩ := hR3
 have hz3 := hc3.size
 have hE := hE.step hc3 (fun k h => by have h : k = g6 := h; omega)
 have hv := hv0.ext hE
 have hu := hu0.ext hE
 refine WL.nil (hK7 _ _ ?_); try clear hK7
 refine CW.sr fun K8 hK8 => ?_
 refine WL.call Tryd.func65 rfl rfl rfl (dnum_any g6 _ d a1 _ _ hB6 hv (fun h0 k hk => by have := hvl h0 k hk; omega) hle2) (by simp) ?_; rintro v22 w4 hR4
 obtain ⟨size, a2, e3, hN4, rfl, hB6, hc4⟩ := hR4
 have hz4 := hc4.size
 have hE := hE.step hc4 (fun k h => by have h : k = g6 := h; omega)
 have hv := hv0.ext hE
 have hu := hu0.ext hE
 obtain ⟨hle4, hlt4⟩ := hN4.le (show a1 ≤ d.length by omega)
 refine WL.a rfl ?_
 refine WL.nil (hK8 _ _ ?_); try clear hK8
 refine CW.sr fun K9 hK9 => ?_
 refine WL.m rfl ?_
 refine WL.v (Y.gtr rfl rfl) ?_
 refine WL.call Tryd.func64 rfl rfl rfl (drefuse_any g6 _ (a2 : Int) e3 _ 3 _ hB6) (by simp) ?_; rintro v25 w5 hR5
 obtain ⟨rfl, hB6, hc5⟩ := hR5
 have hz5 := hc5.size
 have hE := hE.step hc5 (fun k h => by have h : k = g6 := h; omega)
 have hv := hv0.ext hE
 have hu := hu0.ext hE
 have hhd := ap_head (base := base) (d := d) om_ hN2 (by rw [show decide (n1 ≠ base.length) = decide ((n1 : Int) ≠ (m : Int)) from decide_eq_decide.2 om_]; exact hN4)
 obtain ⟨e4, he4⟩ : ∃ e4, e4 = refE e3 (decide (4096 < size)) 3 := ⟨_, rfl⟩
 rw [← he4] at hhd
 rw [show refE e3 (decide ((4096 : Int) < (size : Int))) 3 = e4 from by rw [he4]; congr 1; exact decide_eq_decide.2 om_] at hB6
 have hsz : e4 = 0 → size ≤ 4096 := by
  intro h
  rw [he4, refE] at h
  split at h
  ·
   cases h
  ·
   rename_i hx
   rcases Nat.lt_or_ge 4096 size with h1 | h1
   ·
    exact absurd ⟨h, by simp [h1]⟩ hx
   ·
    exact h1
 refine WL.nil (hK9 _ _ ?_); try clear hK9
 refine CW.sr fun K10 hK10 => ?_
 refine WL.a rfl ?_
 refine WL.nil (hK10 _ _ ?_); try clear hK10
 refine CW.seq fun K11 hK11 => ?_
 refine CW.block ?_
 refine CW.loop (X := Nat × Int × Nat × Value × List UInt8) (fun x => [(0, .slice A m c), (1, .slice B n cb), (6, .pointer (some ⟨g6, 0, none⟩)), (7, .int .i64 (size : Int)), (8, x.2.2.2.1)]) (fun x w0 => apB base d = (if x.2.1 ≠ 0 then ([], x.2.1) else apEnd d (apL base d size x.2.2.1 x.1 x.2.2.2.2)) ∧ x.1 ≤ d.length ∧ (x.2.1 = 0 → size < x.2.2.2.2.length + x.2.2.1 ∧ x.2.2.2.2.length ≤ size ∧ size ≤ 4096) ∧ x.2.2.2.2.length ≤ 4096 ∧ Blk w0 g6 TDr [.slice B n cb, .int .i64 (x.1 : Int), .int .i64 x.2.1] ∧ Own w0 5 1 x.2.2.2.1 (bytesC x.2.2.2.2) ∧ (∀ k, (x.2.2.2.1 : Value).ownBlock = some k → w.heap.size ≤ k ∧ k ≠ g6) ∧ Ext w w0) (fun x => (if x.2.1 = 0 then x.2.2.1 + 1 else 0)) (a2, e4, size + 1, .slice none 0 0, []) Fr.ok ⟨hhd, hle4, (fun h => ⟨by show size < 0 + (size + 1); omega, Nat.zero_le _, hsz h⟩), by show 0 ≤ 4096; omega, hB6, Own.nil, (fun k hk => by cases hk), hE⟩ ?_
 intro x w6 hl6
 clear hE hB6 hv hu
 obtain ⟨at_, e, f, ov, out⟩ := x
 dsimp only at hl6 ⊢
 obtain ⟨hres, hat, hfuel, hol, hB6, hO, hof, hE⟩ := hl6
 obtain ⟨Ao, mo, co, rfl⟩ := hO.lens
 have hmo := hO.by.len.1
 have hv := hv0.ext hE
 have hu := hu0.ext hE
 have hzE := hE.size
 have hg6l := hB6.lt
 refine CW.seq fun K12 hK12 => ?_
 refine CW.seq_test 34 (e = 0 ∧ (mo : Int) < (size : Int)) ?_ ?_
 ·
  refine CW.region ?_
  refine WL.v (Y.fieldAddr fo_deltareader2 rfl) ?_
  refine WL.v (Y.load1 Tryd.underlying24 rfl hB6.mem.deltareader2 rfl) ?_
  refine WL.v (Y.eql rfl rfl) ?_
  refine WL.m rfl ?_
  (first | refine WL.casesD (d := 29) rfl ?_ ?_ | refine WL.casesND (d := 29) rfl ?_ ?_ | refine WL.cases (d := 29) rfl ?_ ?_) <;> intro hg29
  ·
   -- t29 = T
   refine WL.g rfl rfl (Y.move rfl) ?_
   refine WL.g rfl rfl (Y.len_slice Tryd.underlying32 rfl) ?_
   refine WL.g rfl rfl (Y.move rfl) ?_
   refine WL.g rfl rfl (Y.lss rfl rfl) ?_
   refine WL.v (Y.pick rfl rfl) ?_
   refine WL.nil ⟨⟨_, rfl, ?_⟩, rfl, Fr.okp⟩
   exact tst_ok
  ·
   -- t29 = F
   refine WL.o rfl rfl ?_
   refine WL.o rfl rfl ?_
   refine WL.o rfl rfl ?_
   refine WL.o rfl rfl ?_
   refine WL.v (Y.pick rfl rfl) ?_
   refine WL.nil ⟨⟨_, rfl, ?_⟩, rfl, Fr.okp⟩
   exact tst_ok
 (first | refine cd_ rfl ?_ ?_ | refine ce_ rfl ?_ ?_ | refine cn_ rfl ?_ ?_ | refine cb_ rfl ?_ ?_) <;> intro ht13
 ·
  -- then
  refine CW.skip ?_
  refine hK12 _ _ ?_; try clear hK12
  refine CW.block ?_
  refine CW.sr fun K14 hK14 => ?_
  refine WL.call Tryd.func65 rfl rfl rfl (dnum_any g6 _ d at_ e _ hB6 hv (fun h0 k hk => by have := hvl h0 k hk; omega) hat) (by simp) ?_; rintro v35 w7 hR7
  obtain ⟨he0, hlt0⟩ : e = 0 ∧ (mo : Int) < (size : Int) := by assumption
  subst he0
  rw [if_neg (by simp)] at hres
  obtain ⟨hf1, hf2, hf3⟩ := hfuel rfl
  obtain ⟨mm, a1, e1, hN7, rfl, hB6, hc7⟩ := hR7
  have hz7 := hc7.size
  have hE := hE.step hc7 (fun k h => by have h : k = g6 := h; omega)
  have hv := hv0.ext hE
  have hu := hu0.ext hE
  obtain ⟨hle7, hlt7⟩ := hN7.le (show at_ ≤ d.length by omega)
  have hO := hO.chg hc7 (fun k hk h => (hof k hk).2 h)
  refine WL.a rfl ?_
  refine WL.nil (hK14 _ _ ?_); try clear hK14
  refine CW.sr fun K15 hK15 => ?_
  refine WL.m rfl ?_
  refine WL.v (Y.quoN (q := 2) rfl rfl de_) ?_
  refine WL.a rfl ?_
  refine WL.nil (hK15 _ _ ?_); try clear hK15
  refine CW.seq_to (X := Int) (fun _ => [(0, .slice A m c), (1, .slice B n cb), (6, .pointer (some ⟨g6, 0, none⟩)), (7, .int .i64 (size : Int)), (8, .slice Ao mo co), (9, .int .i64 (mm : Int)), (10, .int .i64 ((mm / 2 : Nat) : Int))]) (fun y w0 => Blk w0 g6 TDr [.slice B n cb, .int .i64 (a1 : Int), .int .i64 y] ∧ y = (if e1 = 0 ∧ (mm / 2 = 0 ∨ size - out.length < mm / 2) then 7 else e1) ∧ Own w0 5 1 (.slice Ao mo co) (bytesC out) ∧ Ext w w0) ?_ ?_
  ·
   skip
   refine CW.region ?_
   refine WL.m rfl ?_
   refine WL.v (Y.eql rfl rfl) ?_
   refine WL.m rfl ?_
   (first | refine WL.casesD (d := 40) rfl ?_ ?_ | refine WL.casesND (d := 40) rfl ?_ ?_ | refine WL.cases (d := 40) rfl ?_ ?_) <;> intro hg40
   ·
    -- t40 = T
    refine WL.o rfl rfl ?_
    refine WL.o rfl rfl ?_
    refine WL.o rfl rfl ?_
    refine WL.o rfl rfl ?_
    refine WL.o rfl rfl ?_
    refine WL.o rfl rfl ?_
    refine WL.v (Y.pick rfl rfl) ?_
    refine WL.call Tryd.func64 rfl rfl rfl (drefuse_any g6 _ (a1 : Int) e1 _ 7 _ hB6) (by simp) ?_; rintro v48 w8 hR8
    obtain ⟨rfl, hB6, hc8⟩ := hR8
    have hz8 := hc8.size
    have hE := hE.step hc8 (fun k h => by have h : k = g6 := h; omega)
    have hv := hv0.ext hE
    have hu := hu0.ext hE
    have hO := hO.chg hc8 (fun k hk h => (hof k hk).2 h)
    refine WL.nil ?_
    exact ⟨refE e1 true 7, Fr.ok, hB6, by rw [refE]; exact ite_iff (and_congr Iff.rfl ⟨fun _ => .inl om_, fun _ => rfl⟩), hO, hE⟩
   ·
    -- t40 = F
    refine WL.g rfl rfl (Y.move rfl) ?_
    refine WL.g rfl rfl (Y.move rfl) ?_
    refine WL.g rfl rfl (Y.move rfl) ?_
    refine WL.g rfl rfl (Y.len_slice Tryd.underlying32 rfl) ?_
    refine WL.g rfl rfl (Y.sub rfl rfl o2_) ?_
    refine WL.g rfl rfl (Y.gtr rfl rfl) ?_
    refine WL.v (Y.pick rfl rfl) ?_
    refine WL.call Tryd.func64 rfl rfl rfl (drefuse_any g6 _ (a1 : Int) e1 _ 7 _ hB6) (by simp) ?_; rintro v48 w9 hR9
    obtain ⟨rfl, hB6, hc9⟩ := hR9
    have hz9 := hc9.size
    have hE := hE.step hc9 (fun k h => by have h : k = g6 := h; omega)
    have hv := hv0.ext hE
    have hu := hu0.ext hE
    have hO := hO.chg hc9 (fun k hk h => (hof k hk).2 h)
    refine WL.nil ?_
    exact ⟨refE e1 _ 7, Fr.ok, hB6, by rw [refE]; exact ite_iff (and_congr Iff.rfl (by rw [decide_eq_true_iff]; omega)), hO, hE⟩
  rintro u w10 hj10
  clear hE hB6 hv hu hO
  obtain ⟨hB6, hue, hO, hE⟩ := hj10
  have hv := hv0.ext hE
  have hu := hu0.ext hE
  have hzE := hE.size
  have hg6l := hB6.lt
  obtain ⟨f, rfl⟩ : ∃ f_, f = f_ + 1 := ⟨f - 1, by omega⟩
  refine CW.seq fun K16 hK16 => ?_
  refine CW.sr fun K17 hK17 => ?_
  refine WL.m rfl ?_
  refine WL.v (Y.remN (q := 2) rfl rfl de_) ?_
  refine WL.v (Y.eql rfl rfl) ?_
  refine WL.nil (hK17 _ _ ?_); try clear hK17
  (first | refine cd_ rfl ?_ ?_ | refine ce_ rfl ?_ ?_ | refine cn_ rfl ?_ ?_ | refine cb_ rfl ?_ ?_) <;> intro ht18
  ·
   -- then
   refine CW.sr fun K19 hK19 => ?_
   refine WL.m rfl ?_
   refine WL.m rfl ?_
   refine WL.v (Y.len_slice Tryd.underlying32 rfl) ?_
   refine WL.v (Y.fieldAddr fo_deltareader1 rfl) ?_
   refine WL.v (Y.load1 Tryd.underlying3 rfl hB6.mem.deltareader1 rfl) ?_
   refine WL.v (Y.sub rfl rfl o2_) ?_
   refine WL.v (Y.gtr rfl rfl) ?_
   refine WL.call Tryd.func64 rfl rfl rfl (drefuse_any g6 _ (a1 : Int) u _ 8 _ hB6) (by simp) ?_; rintro v59 w11 hR11
   obtain ⟨rfl, hB6, hc11⟩ := hR11
   have hz11 := hc11.size
   have hE := hE.step hc11 (fun k h => by have h : k = g6 := h; omega)
   have hv := hv0.ext hE
   have hu := hu0.ext hE
   have hO := hO.chg hc11 (fun k hk h => (hof k hk).2 h)
   obtain ⟨e3_, he3_⟩ : ∃ e3_, e3_ = refE u (decide ((n : Int) - (a1 : Int) < ((mm / 2 : Nat) : Int))) 8 := ⟨_, rfl⟩
   rw [← he3_] at hB6
   have hm2 : mm % 2 = 0 := by omega
   have hev : e3_ = 0 → e3_ = 0 ∧ gnum d at_ = .ok (mm, a1) ∧ ¬ (mm / 2 = 0 ∨ size - out.length < mm / 2) ∧ ¬ d.length - a1 < mm / 2 := by
    intro h
    rw [he3_, refE] at h
    split at h
    ·
     cases h
    rename_i hx
    rw [h] at hx
    rw [h] at hue
    rcases hN7 with ⟨_, he, hg⟩ | ⟨_, he, _⟩ | ⟨h, _⟩
    ·
     refine ⟨by rw [he3_, h, refE, if_neg hx], hg, fun hq => ?_, fun hq => hx ⟨rfl, by rw [decide_eq_true_iff]; omega⟩⟩
     rw [if_pos ⟨he, hq⟩] at hue; cases hue
    ·
     split at hue
     ·
      cases hue
     ·
      exact absurd hue.symm he
    ·
     exact absurd rfl h
   have hbad : e3_ ≠ 0 → apB base d = ([], e3_) := by
    intro h
    rw [hres]
    rcases hN7 with ⟨_, he, hg⟩ | ⟨_, he, hg, _⟩ | ⟨h, _⟩
    ·
     by_cases hq : (mm / 2 = 0 ∨ size - out.length < mm / 2)
     ·
      rw [if_pos ⟨he, hq⟩] at hue
      rw [apE_bad om_ hg hq, he3_, hue, refE, if_neg (fun x => by cases x.1)]
     ·
      rw [if_neg (fun x => hq x.2), he] at hue
      rw [he3_, hue, refE] at h ⊢
      by_cases hd : (n : Int) - (a1 : Int) < ((mm / 2 : Nat) : Int)
      ·
       rw [if_pos ⟨rfl, decide_eq_true hd⟩, apE_end om_ hg hq hm2 om_]
      ·
       rw [if_neg (fun x => hd (of_decide_eq_true x.2))] at h; exact absurd rfl h
    ·
     rw [if_neg (fun x => he x.1)] at hue
     rw [he3_, hue, refE, if_neg (fun x => he x.1), apE_num om_ hg]
    ·
     exact absurd rfl h
   refine WL.nil (hK19 _ _ ?_); try clear hK19
   refine CW.seq_to (X := Nat × Int × Nat × Value × List UInt8) (fun y => [(0, .slice A m c), (1, .slice B n cb), (6, .pointer (some ⟨g6, 0, none⟩)), (7, .int .i64 (size : Int)), (8, y.2.2.2.1)]) (fun y w0 => (if y.2.1 = 0 then y.2.2.1 + 1 else 0) < f + 1 + 1 ∧ apB base d = (if y.2.1 ≠ 0 then ([], y.2.1) else apEnd d (apL base d size y.2.2.1 y.1 y.2.2.2.2)) ∧ y.1 ≤ d.length ∧ (y.2.1 = 0 → size < y.2.2.2.2.length + y.2.2.1 ∧ y.2.2.2.2.length ≤ size ∧ size ≤ 4096) ∧ y.2.2.2.2.length ≤ 4096 ∧ Blk w0 g6 TDr [.slice B n cb, .int .i64 (y.1 : Int), .int .i64 y.2.1] ∧ Own w0 5 1 y.2.2.2.1 (bytesC y.2.2.2.2) ∧ (∀ k, (y.2.2.2.1 : Value).ownBlock = some k → w.heap.size ≤ k ∧ k ≠ g6) ∧ Ext w w0) ?_ ?_
   ·
    skip
    refine CW.sr fun K21 hK21 => ?_
    refine WL.v (Y.fieldAddr fo_deltareader2 rfl) ?_
    refine WL.v (Y.load1 Tryd.underlying24 rfl hB6.mem.deltareader2 rfl) ?_
    refine WL.v (Y.eql rfl rfl) ?_
    refine WL.nil (hK21 _ _ ?_); try clear hK21
    (first | refine cd_ rfl ?_ ?_ | refine ce_ rfl ?_ ?_ | refine cn_ rfl ?_ ?_ | refine cb_ rfl ?_ ?_) <;> intro ht22
    ·
     -- then
     refine CW.seq fun K23 hK23 => ?_
     obtain ⟨he3, hok, hnb, hle8⟩ := hev (by assumption); obtain ⟨b1, rfl, hmb⟩ := hv.mem.1 om_; refine CW.region ?_
     refine WL.m rfl ?_
     refine WL.m rfl ?_
     refine WL.v (Y.fieldAddr fo_deltareader1 rfl) ?_
     refine WL.v (Y.load1 Tryd.underlying3 rfl hB6.mem.deltareader1 rfl) ?_
     refine WL.v (Y.fieldAddr fo_deltareader1 rfl) ?_
     refine WL.v (Y.load1 Tryd.underlying3 rfl hB6.mem.deltareader1 rfl) ?_
     refine WL.m rfl ?_
     refine WL.v (Y.add rfl rfl o2_) ?_
     refine WL.v (Y.slice_slI (i := a1) (j := a1 + mm / 2) Tryd.underlying32 rfl rfl rfl sz0_uint8 om_ om_ om_ om_) ?_
     refine WL.st (St.app (xs := out) (ys := (d.drop a1).take (a1 + mm / 2 - a1)) Tryd.underlying32 Tryd.underlying32 ai_u8 rfl rfl hO (Src.cut hv om_ om_) om_) de_ fun v72 w12 hR12 => ?_
     obtain ⟨hO12, hc12, hf12⟩ := hR12
     have hz12 := hc12.size
     have hE := hE.step hc12 (fun k h => (hof k h).1)
     have hB6 := hB6.chg hc12 (fun h => (hof _ h).2 rfl)
     rw [Nat.add_sub_cancel_left] at hO12
     have hg6l := hB6.lt
     have hf12 : ∀ k, v72.ownBlock = some k → w.heap.size ≤ k ∧ k ≠ g6 := by
      rcases hf12 with h_ | h_
      ·
       intro k hk; rw [h_] at hk; exact hof k hk
      ·
       intro k hk; have := h_ k hk; exact o2_
     refine WL.a rfl ?_
     refine WL.nil (hK23 _ _ ?_); try clear hK23
     refine CW.region ?_
     refine WL.v (Y.fieldAddr fo_deltareader1 rfl) ?_
     refine WL.v (Y.load1 Tryd.underlying3 rfl hB6.mem.deltareader1 rfl) ?_
     refine WL.m rfl ?_
     refine WL.v (Y.add rfl rfl o2_) ?_
     refine WL.v (Y.fieldAddr fo_deltareader1 rfl) ?_
     refine WL.store (g := g6) (pre := [.slice (some b1) n cb]) (old := [.int .i64 (a1 : Int)]) (post := [.int .i64 e3_]) (new := [.int .i64 ((a1 : Int) + ((mm / 2 : Nat) : Int))]) rfl rfl rfl rfl kr_ (by simpa using hB6) ln_ (one1 rfl) (fun w13 hc13 hB13_ => ?_)
     have hz13 := hc13.size; have hE := hE.step hc13 (fun k h => by omega)
     skip
     refine WL.nil ?_
     have hlen : ((d.drop a1).take (mm / 2)).length = mm / 2 := by rw [List.length_take, List.length_drop]; omega
     refine ⟨(a1 + mm / 2, e3_, f, v72, out ++ (d.drop a1).take (mm / 2)), Fr.ok, by show (if e3_ = 0 then f + 1 else 0) < f + 1 + 1; split <;> omega, ?_, by show a1 + mm / 2 ≤ d.length; omega, fun _ => ?_, ?_, by simpa using hB13_, hO12.chg hc13 (fun k hk h => (hf12 k hk).2 h), hf12, hE⟩
     ·
      show apB base d = if e3_ ≠ 0 then _ else _
      rw [if_neg (by simp [he3]), hres, ap_own om_ hok hnb hm2 hle8]
     ·
      show size < (out ++ _).length + f ∧ (out ++ _).length ≤ size ∧ size ≤ 4096
      rw [List.length_append, hlen]; omega
     ·
      show (out ++ _).length ≤ 4096
      rw [List.length_append, hlen]; omega
    refine CW.skip ?_
    refine ⟨(a1, e3_, f + 1, .slice Ao mo co, out), Fr.ok, by show (if e3_ = 0 then f + 1 + 1 else 0) < f + 1 + 1; rw [if_neg (by assumption)]; omega, ?_, hle7, (fun h => absurd h (by assumption)), hol, hB6, hO, hof, hE⟩
    show apB base d = if e3_ ≠ 0 then _ else _
    rw [if_pos (by assumption)]
    exact hbad (by assumption)
   rintro u w14 hj14
   obtain ⟨hmu, hLI⟩ := hj14
   refine CW.exit ?_
   exact ⟨u, (show _ < (if (0 : Int) = 0 then f + 1 + 1 else 0) by rw [if_pos rfl]; exact hmu), Fr.ok, hLI⟩
  refine CW.skip ?_
  refine hK16 _ _ ?_; try clear hK16
  refine CW.sr fun K24 hK24 => ?_
  refine WL.call Tryd.func65 rfl rfl rfl (dnum_any g6 _ d a1 u _ hB6 hv (fun h0 k hk => by have := hvl h0 k hk; omega) hle7) (by simp) ?_; rintro v78 w15 hR15
  obtain ⟨k_, a2, e5, hN15, rfl, hB6, hc15⟩ := hR15
  have hz15 := hc15.size
  have hE := hE.step hc15 (fun k h => by have h : k = g6 := h; omega)
  have hv := hv0.ext hE
  have hu := hu0.ext hE
  obtain ⟨hle15, hlt15⟩ := hN15.le (show a1 ≤ d.length by omega)
  have hO := hO.chg hc15 (fun k hk h => (hof k hk).2 h)
  refine WL.a rfl ?_
  refine WL.nil (hK24 _ _ ?_); try clear hK24
  refine CW.seq_to (X := Int) (fun _ => [(0, .slice A m c), (1, .slice B n cb), (6, .pointer (some ⟨g6, 0, none⟩)), (7, .int .i64 (size : Int)), (8, .slice Ao mo co), (9, .int .i64 (mm : Int)), (10, .int .i64 ((mm / 2 : Nat) : Int)), (11, .int .i64 (k_ : Int))]) (fun y w0 => Blk w0 g6 TDr [.slice B n cb, .int .i64 (a2 : Int), .int .i64 y] ∧ y = (if e5 = 0 ∧ (base.length < k_ ∨ base.length - k_ < mm / 2) then 9 else e5) ∧ Own w0 5 1 (.slice Ao mo co) (bytesC out) ∧ Ext w w0) ?_ ?_
  ·
   skip
   refine CW.region ?_
   refine WL.m rfl ?_
   refine WL.m rfl ?_
   refine WL.v (Y.len_slice Tryd.underlying32 rfl) ?_
   refine WL.v (Y.gtr rfl rfl) ?_
   refine WL.m rfl ?_
   (first | refine WL.casesD (d := 83) rfl ?_ ?_ | refine WL.casesND (d := 83) rfl ?_ ?_ | refine WL.cases (d := 83) rfl ?_ ?_) <;> intro hg83
   ·
    -- t83 = T
    refine WL.o rfl rfl ?_
    refine WL.o rfl rfl ?_
    refine WL.o rfl rfl ?_
    refine WL.o rfl rfl ?_
    refine WL.o rfl rfl ?_
    refine WL.o rfl rfl ?_
    refine WL.v (Y.pick rfl rfl) ?_
    refine WL.call Tryd.func64 rfl rfl rfl (drefuse_any g6 _ (a2 : Int) e5 _ 9 _ hB6) (by simp) ?_; rintro v91 w16 hR16
    obtain ⟨rfl, hB6, hc16⟩ := hR16
    have hz16 := hc16.size
    have hE := hE.step hc16 (fun k h => by have h : k = g6 := h; omega)
    have hv := hv0.ext hE
    have hu := hu0.ext hE
    have hO := hO.chg hc16 (fun k hk h => (hof k hk).2 h)
    refine WL.nil ?_
    exact ⟨refE e5 true 9, Fr.ok, hB6, by rw [refE]; exact ite_iff (and_congr Iff.rfl ⟨fun _ => .inl om_, fun _ => rfl⟩), hO, hE⟩
   ·
    -- t83 = F
    refine WL.g rfl rfl (Y.move rfl) ?_
    refine WL.g rfl rfl (Y.move rfl) ?_
    refine WL.g rfl rfl (Y.len_slice Tryd.underlying32 rfl) ?_
    refine WL.g rfl rfl (Y.move rfl) ?_
    refine WL.g rfl rfl (Y.sub rfl rfl o2_) ?_
    refine WL.g rfl rfl (Y.gtr rfl rfl) ?_
    refine WL.v (Y.pick rfl rfl) ?_
    refine WL.call Tryd.func64 rfl rfl rfl (drefuse_any g6 _ (a2 : Int) e5 _ 9 _ hB6) (by simp) ?_; rintro v91 w17 hR17
    obtain ⟨rfl, hB6, hc17⟩ := hR17
    have hz17 := hc17.size
    have hE := hE.step hc17 (fun k h => by have h : k = g6 := h; omega)
    have hv := hv0.ext hE
    have hu := hu0.ext hE
    have hO := hO.chg hc17 (fun k hk h => (hof k hk).2 h)
    refine WL.nil ?_
    exact ⟨refE e5 _ 9, Fr.ok, hB6, by rw [refE]; exact ite_iff (and_congr Iff.rfl (by rw [decide_eq_true_iff]; omega)), hO, hE⟩
  rintro u w18 hj18
  clear hE hB6 hv hu hO
  obtain ⟨e6, he6_⟩ : ∃ e6, e6 = u := ⟨_, rfl⟩
  obtain ⟨hB6, hye, hO, hE⟩ := hj18
  rw [← he6_] at hB6 hye
  have hv := hv0.ext hE
  have hu := hu0.ext hE
  have hzE := hE.size
  have hg6l := hB6.lt
  have hm2 : ¬ mm % 2 = 0 := by omega
  have hod : e6 = 0 → gnum d at_ = .ok (mm, a1) ∧ ¬ (mm / 2 = 0 ∨ size - out.length < mm / 2) ∧ gnum d a1 = .ok (k_, a2) ∧ ¬ (base.length < k_ ∨ base.length - k_ < mm / 2) := by
   intro h
   rw [h] at hye
   have h5 : e5 = 0 ∧ ¬ (base.length < k_ ∨ base.length - k_ < mm / 2) := by
    by_cases hq : e5 = 0 ∧ (base.length < k_ ∨ base.length - k_ < mm / 2)
    ·
     rw [if_pos hq] at hye; exact absurd hye de_
    ·
     rw [if_neg hq] at hye; exact ⟨hye.symm, fun x => hq ⟨hye.symm, x⟩⟩
   rw [hue] at hN15
   rcases hN15 with ⟨hz, _, hg2⟩ | ⟨_, hz, _⟩ | ⟨hz, hz2, _⟩
   ·
    have h1 : e1 = 0 ∧ ¬ (mm / 2 = 0 ∨ size - out.length < mm / 2) := by
     by_cases hq : e1 = 0 ∧ (mm / 2 = 0 ∨ size - out.length < mm / 2)
     ·
      rw [if_pos hq] at hz; exact absurd hz de_
     ·
      rw [if_neg hq] at hz; exact ⟨hz, fun x => hq ⟨hz, x⟩⟩
    rcases hN7 with ⟨_, _, hg⟩ | ⟨_, hx, _⟩ | ⟨hx, _⟩
    ·
     exact ⟨hg, h1.2, hg2, h5.2⟩
    ·
     exact absurd h1.1 hx
    ·
     exact absurd rfl hx
   ·
    exact absurd h5.1 hz
   ·
    exact absurd (hz2.symm.trans h5.1) hz
  have hbad : e6 ≠ 0 → apB base d = ([], e6) := by
   intro h
   rw [hres]
   rw [hue] at hN15
   rcases hN7 with ⟨_, he, hg⟩ | ⟨_, he, hg, _⟩ | ⟨hx, _⟩
   ·
    by_cases hq : (mm / 2 = 0 ∨ size - out.length < mm / 2)
    ·
     rw [if_pos ⟨he, hq⟩] at hN15
     rcases hN15 with ⟨hx, _⟩ | ⟨hx, _⟩ | ⟨_, h5, _⟩
     ·
      exact absurd hx de_
     ·
      exact absurd hx de_
     ·
      rw [h5, if_neg (fun x => absurd x.1 de_)] at hye
      rw [apE_bad om_ hg hq, hye]
    ·
     rw [if_neg (fun x => hq x.2), he] at hN15
     rcases hN15 with ⟨_, h5, hg2⟩ | ⟨_, h5, hg2, _⟩ | ⟨hx, _⟩
     ·
      by_cases hq2 : (base.length < k_ ∨ base.length - k_ < mm / 2)
      ·
       rw [if_pos ⟨h5, hq2⟩] at hye
       rw [apE_rng om_ hg hq hm2 hg2 hq2, hye]
      ·
       rw [if_neg (fun x => hq2 x.2)] at hye
       exact absurd (hye.trans h5) h
     ·
      rw [if_neg (fun x => h5 x.1)] at hye
      rw [apE_num2 om_ hg hq hm2 hg2, hye]
     ·
      exact absurd rfl hx
   ·
    rw [if_neg (fun x => he x.1)] at hN15
    rcases hN15 with ⟨hx, _⟩ | ⟨hx, _⟩ | ⟨_, h5, _⟩
    ·
     exact absurd hx he
    ·
     exact absurd hx he
    ·
     rw [h5, if_neg (fun x => he x.1)] at hye
     rw [apE_num om_ hg, hye]
   ·
    exact absurd rfl hx
  refine CW.sr fun K25 hK25 => ?_
  refine WL.v (Y.fieldAddr fo_deltareader2 rfl) ?_
  refine WL.v (Y.load1 Tryd.underlying24 rfl hB6.mem.deltareader2 rfl) ?_
  refine WL.v (Y.eql rfl rfl) ?_
  refine WL.nil (hK25 _ _ ?_); try clear hK25
  (first | refine cd_ rfl ?_ ?_ | refine ce_ rfl ?_ ?_ | refine cn_ rfl ?_ ?_ | refine cb_ rfl ?_ ?_) <;> intro ht26
  ·
   -- then
   obtain ⟨hok, hnb, hok2, hnr⟩ := hod (by assumption); obtain ⟨b1, rfl, hmb⟩ := hu.mem.1 om_; refine CW.region ?_
   refine WL.m rfl ?_
   refine WL.m rfl ?_
   refine WL.m rfl ?_
   refine WL.m rfl ?_
   refine WL.m rfl ?_
   refine WL.v (Y.add rfl rfl o2_) ?_
   refine WL.v (Y.slice_slI (i := k_) (j := k_ + mm / 2) Tryd.underlying32 rfl rfl rfl sz0_uint8 om_ om_ om_ om_) ?_
   refine WL.st (St.app (xs := out) (ys := (base.drop k_).take (k_ + mm / 2 - k_)) Tryd.underlying32 Tryd.underlying32 ai_u8 rfl rfl hO (Src.cut hu om_ om_) om_) de_ fun v102 w19 hR19 => ?_
   obtain ⟨hO19, hc19, hf19⟩ := hR19
   have hz19 := hc19.size
   have hE := hE.step hc19 (fun k h => (hof k h).1)
   have hB6 := hB6.chg hc19 (fun h => (hof _ h).2 rfl)
   rw [Nat.add_sub_cancel_left] at hO19
   have hg6l := hB6.lt
   have hf19 : ∀ k, v102.ownBlock = some k → w.heap.size ≤ k ∧ k ≠ g6 := by
    rcases hf19 with h_ | h_
    ·
     intro k hk; rw [h_] at hk; exact hof k hk
    ·
     intro k hk; have := h_ k hk; exact o2_
   refine WL.a rfl ?_
   refine WL.nil ?_
   have he6 : e6 = 0 := by assumption
   have hlen : ((base.drop k_).take (mm / 2)).length = mm / 2 := by rw [List.length_take, List.length_drop]; omega
   refine ⟨(a2, e6, f, v102, out ++ (base.drop k_).take (mm / 2)), by show (if e6 = 0 then f + 1 else 0) < (if (0 : Int) = 0 then f + 1 + 1 else 0); rw [if_pos he6, if_pos rfl]; omega, Fr.ok, ?_, by show a2 ≤ d.length; omega, fun _ => ?_, ?_, hB6, hO19, hf19, hE⟩
   ·
    show apB base d = if e6 ≠ 0 then _ else _
    rw [if_neg (by simp [he6]), hres, ap_copy om_ hok hnb hm2 hok2 hnr]
   ·
    show size < (out ++ _).length + f ∧ (out ++ _).length ≤ size ∧ size ≤ 4096
    rw [List.length_append, hlen]; omega
   ·
    show (out ++ _).length ≤ 4096
    rw [List.length_append, hlen]; omega
  refine CW.skip ?_
  refine ⟨(a2, e6, f + 1, .slice Ao mo co, out), by show (if e6 = 0 then f + 1 + 1 else 0) < (if (0 : Int) = 0 then f + 1 + 1 else 0); rw [if_neg (by assumption), if_pos rfl]; omega, Fr.ok, ?_, hle15, (fun h => absurd h (by assumption)), hol, hB6, hO, hof, hE⟩
  show apB base d = if e6 ≠ 0 then _ else _
  rw [if_pos (by assumption)]
  exact hbad (by assumption)
 refine CW.exit ?_
 refine hK11 _ _ ?_; try clear hK11
 refine CW.sr fun K27 hK27 => ?_
 refine WL.v (Y.fieldAddr fo_deltareader1 rfl) ?_
 refine WL.v (Y.load1 Tryd.underlying3 rfl hB6.mem.deltareader1 rfl) ?_
 refine WL.m rfl ?_
 refine WL.v (Y.len_slice Tryd.underlying32 rfl) ?_
 refine WL.v (Y.neq rfl rfl) ?_
 refine WL.call Tryd.func64 rfl rfl rfl (drefuse_any g6 _ (at_ : Int) e _ 7 _ hB6) (by simp) ?_; rintro v108 w20 hR20
 obtain ⟨rfl, hB6, hc20⟩ := hR20
 have hz20 := hc20.size
 have hE := hE.step hc20 (fun k h => by have h : k = g6 := h; omega)
 have hv := hv0.ext hE
 have hu := hu0.ext hE
 have hO := hO.chg hc20 (fun k hk h => (hof k hk).2 h)
 obtain ⟨e7, he7⟩ : ∃ e7, e7 = refE e (decide ((at_ : Int) ≠ (n : Int))) 7 := ⟨_, rfl⟩
 rw [← he7] at hB6
 have hfin : apB base d = if e7 ≠ 0 then ([], e7) else (out, 0) := by
  by_cases he : e = 0
  ·
   subst he
   rw [hres, if_neg (by simp), apL_done om_, he7]
   unfold apEnd
   rw [if_neg (by simp)]
   by_cases ha : at_ = d.length
   ·
    rw [if_neg (by simpa using ha), decide_eq_false om_, refE_no, if_neg (by simp)]
   ·
    rw [if_pos ha, decide_eq_true om_, refE_yes, if_pos de_]
  ·
   rw [hres, if_pos he, he7, refE_ne he, if_pos he]
 refine WL.nil (hK27 _ _ ?_); try clear hK27
 refine CW.seq fun K28 hK28 => ?_
 refine CW.sr fun K29 hK29 => ?_
 refine WL.v (Y.fieldAddr fo_deltareader2 rfl) ?_
 refine WL.v (Y.load1 Tryd.underlying24 rfl hB6.mem.deltareader2 rfl) ?_
 refine WL.v (Y.neq rfl rfl) ?_
 refine WL.nil (hK29 _ _ ?_); try clear hK29
 (first | refine cd_ rfl ?_ ?_ | refine ce_ rfl ?_ ?_ | refine cn_ rfl ?_ ?_ | refine cb_ rfl ?_ ?_) <;> intro ht30
 ·
  -- then
  refine CW.seq fun K31 hK31 => ?_
  refine CW.quiet (fun wq => Ext w20 wq) kr_ kr_ Chg.drew ?_
  refine QL.v (fun wq hq => Y.fieldAddr fo_deltareader2 rfl) ?_
  refine QL.v (fun wq hq => Y.load1 Tryd.underlying24 rfl (hB6.ext hq).mem.deltareader2 rfl) ?_
  refine QL.a rfl ?_
  refine QL.a rfl ?_
  refine QL.nil fun w21 hx21 => ?_
  have hz21 := hx21.size
  have hE := hE.thenExt hx21
  have hB6 := hB6.ext hx21
  refine hK31 _ _ ?_; try clear hK31
  refine CW.ret ⟨_, rfl, ?_⟩
  exact ⟨_, by rw [hfin, if_pos (by assumption)], by rw [hfin, if_pos (by assumption)]; exact Own.nil, (fun k hk => by cases hk), hE⟩
 refine CW.skip ?_
 refine hK28 _ _ ?_; try clear hK28
 refine CW.sr fun K32 hK32 => ?_
 refine WL.m rfl ?_
 refine WL.a rfl ?_
 refine WL.a rfl ?_
 refine WL.nil (hK32 _ _ ?_); try clear hK32
 refine CW.ret ⟨_, rfl, ?_⟩
 exact ⟨_, by rw [hfin, if_neg (by assumption)], by rw [hfin, if_neg (by assumption)]; exact hO, (fun k hk => (hof k hk).1), hE⟩
end Go.Proofs.YtfanmpbapabboaaDoor
/- The plain law of a pack that is written. No condition; no program run. -/
namespace Go.Proofs.YtfanmpbapabboaaDoor
open Go.RowKit Go.Fw Go.Pl Go.Sort
def toldK (ahead b : List UInt8) (first : Bool) (depth : Nat) : Nat := if first = true ∨ 4 ≤ depth then 0 else if mkE ahead b ≠ 0 ∨ b.length ≤ (mkR ahead b).length then 0 else 1
def toldB (ahead b : List UInt8) (first : Bool) (depth : Nat) : List UInt8 := if toldK ahead b first depth = 0 then b else mkR ahead b
theorem toldK_cases (ahead b : List UInt8) (first : Bool) (depth : Nat) : toldK ahead b first depth = 0 ∨ toldK ahead b first depth = 1 := by
 unfold toldK; split
 ·
  exact .inl rfl
 ·
  split
  ·
   exact .inl rfl
  ·
   exact .inr rfl
theorem toldB_len (ahead b : List UInt8) (first : Bool) (depth : Nat) : (toldB ahead b first depth).length ≤ b.length := by
 unfold toldB
 split
 ·
  exact Nat.le_refl _
 ·
  rename_i h
  unfold toldK at h
  split at h
  ·
   exact absurd rfl h
  ·
   split at h
   ·
    exact absurd rfl h
   ·
    rename_i h2
    have := not_or.1 h2
    omega
structure WS where
 out : List UInt8
 depth : Nat
 ahead : List UInt8
 first : Bool
def wPiece (s : WS) (o : Obj) : List UInt8 := o.1.1 ++ vi (toldK s.ahead o.2 s.first s.depth) ++ textB (toldB s.ahead o.2 s.first s.depth)
def wStep (s : WS) (o : Obj) : WS := ⟨s.out ++ wPiece s o, (s.depth + 1) * toldK s.ahead o.2 s.first s.depth, o.2, false⟩
def wRun : List Obj → WS → Option WS
 | [], s => some s
 | o :: r, s => if 1048544 < (wStep s o).out.length then none else wRun r (wStep s o)
def wBegin (n : Nat) : WS := ⟨[82, 80, 49] ++ vi n, 0, [], true⟩
def wrR (os : List Obj) : List UInt8 × Int := match wRun os (wBegin os.length) with
 | none => ([], 3)
 | some s => (s.out ++ (shaD s.out).1, 0)
theorem wDepth (s : WS) (o : Obj) : (wStep s o).depth ≤ 4 ∨ False := by
 unfold wStep
 simp only []
 rcases toldK_cases s.ahead o.2 s.first s.depth with h | h
 ·
  rw [h]; left; omega
 ·
  left
  have h4 : ¬ (s.first = true ∨ 4 ≤ s.depth) := by
   intro hx; unfold toldK at h; rw [if_pos hx] at h; cases h
  have := (not_or.1 h4).2
  rw [h]; omega
theorem wPiece_len (s : WS) (o : Obj) (h : o.2.length ≤ 131072) : (wPiece s o).length ≤ 131200 := by
 have h1 := o.1.2
 have h2 := toldB_len s.ahead o.2 s.first s.depth
 have h3 := vi_len9 (n := toldK s.ahead o.2 s.first s.depth) (by rcases toldK_cases s.ahead o.2 s.first s.depth with h | h <;> omega)
 have h4 := vi_len9 (n := (toldB s.ahead o.2 s.first s.depth).length) om_
 simp only [wPiece, textB, List.length_append]
 omega
end Go.Proofs.YtfanmpbapabboaaDoor
/- The plain law of a pack that is read. No condition; no program run. -/
namespace Go.Pl
open Go.Fw
def behind (ids : List Dig) (d : Dig) : Bool := match ids.getLast? with
 | none => true
 | some x => lessB x d
def robj (b : List UInt8) (ids : List Dig) (ahead : List UInt8) (depth at_ : Nat) : Except Int ((Dig × List UInt8 × Nat) × Nat) := match gdig b at_ with
 | .error e => .error e
 | .ok (d, a1) => if behind ids d = false then .error 7 else match gnum b a1 with
  | .error e => .error e
  | .ok (k, a2) => if 1 < k ∨ (k = 1 ∧ ids = []) then .error 7 else if 4 < (depth + 1) * k then .error 13 else match gtext b a2 with
   | .error e => .error e
   | .ok (s, a3) => if (if k = 1 then (apB ahead s).2 else 0) ≠ 0 then .error (apB ahead s).2 else
    if shaD (if k = 1 then (apB ahead s).1 else s) ≠ d then .error 10 else .ok ((d, (if k = 1 then (apB ahead s).1 else s), (depth + 1) * k), a3)
def robjs (b : List UInt8) : Nat → List Dig → List (List UInt8) → List UInt8 → Nat → Nat → Except Int (List (List UInt8) × Nat)
 | 0, _, l, _, _, at_ => .ok (l, at_)
 | n + 1, ids, l, ahead, depth, at_ => match robj b ids ahead depth at_ with
  | .error e => .error e
  | .ok ((d, s, dp), a) => robjs b n (ids ++ [d]) (l ++ [s]) s dp a
def rbody (b : List UInt8) : Except Int (List (List UInt8)) := match gnum b 3 with
 | .error e => .error e
 | .ok (n, a) => if 500 < n then .error 4 else match robjs b n [] [] [] 0 a with
  | .error e => .error e
  | .ok (l, at_) => if at_ ≠ b.length then .error 7 else .ok l
def rdP (p : List UInt8) : Except Int (List (List UInt8)) := if 1048576 < p.length then .error 3 else if p.length < 3 ∨ p.take 3 ≠ [82, 80, 49] then .error 7 else
 if p.length < 35 then .error 8 else if (shaD (p.take (p.length - 32))).1 ≠ p.drop (p.length - 32) then .error 10 else rbody (p.take (p.length - 32))
section
variable {b ahead : List UInt8} {ids : List Dig} {depth at_ a1 a2 a3 k : Nat} {e : Int} {d : Dig} {s : List UInt8}
theorem robj_e1 (h : gdig b at_ = .error e) : robj b ids ahead depth at_ = .error e := by rw [robj, h]
theorem robj_e2 (h : gdig b at_ = .ok (d, a1)) (hb : behind ids d = false) : robj b ids ahead depth at_ = .error 7 := by rw [robj, h]; simp only []; rw [if_pos hb]
variable (h : gdig b at_ = .ok (d, a1)) (hb : behind ids d = true)
include h hb
theorem robj_1 : robj b ids ahead depth at_ = match gnum b a1 with
  | .error e => .error e
  | .ok (k, a2) => if 1 < k ∨ (k = 1 ∧ ids = []) then .error 7 else if 4 < (depth + 1) * k then .error 13 else match gtext b a2 with
   | .error e => .error e
   | .ok (s, a3) => if (if k = 1 then (apB ahead s).2 else 0) ≠ 0 then .error (apB ahead s).2 else
    if shaD (if k = 1 then (apB ahead s).1 else s) ≠ d then .error 10 else .ok ((d, (if k = 1 then (apB ahead s).1 else s), (depth + 1) * k), a3) := by
 rw [robj, h]; simp only []; rw [if_neg (by rw [hb]; decide)]
theorem robj_e3 (hn : gnum b a1 = .error e) : robj b ids ahead depth at_ = .error e := by rw [robj_1 h hb, hn]
variable (hn : gnum b a1 = .ok (k, a2))
include hn
theorem robj_e4 (hk : 1 < k ∨ (k = 1 ∧ ids = [])) : robj b ids ahead depth at_ = .error 7 := by rw [robj_1 h hb, hn]; simp only []; rw [if_pos hk]
variable (hk : ¬ (1 < k ∨ (k = 1 ∧ ids = [])))
include hk
theorem robj_e5 (hd : 4 < (depth + 1) * k) : robj b ids ahead depth at_ = .error 13 := by rw [robj_1 h hb, hn]; simp only []; rw [if_neg hk, if_pos hd]
variable (hd : ¬ 4 < (depth + 1) * k)
include hd
theorem robj_e6 (ht : gtext b a2 = .error e) : robj b ids ahead depth at_ = .error e := by rw [robj_1 h hb, hn]; simp only []; rw [if_neg hk, if_neg hd, ht]
variable (ht : gtext b a2 = .ok (s, a3))
include ht
theorem robj_e7 (h1 : k = 1) (ha : (apB ahead s).2 ≠ 0) : robj b ids ahead depth at_ = .error (apB ahead s).2 := by rw [robj_1 h hb, hn]; simp only []; rw [if_neg hk, if_neg hd, ht]; simp only []; rw [if_pos h1, if_pos ha]
theorem robj_last {t : List UInt8} (hr : (k = 1 ∧ apB ahead s = (t, 0)) ∨ (k ≠ 1 ∧ t = s)) : robj b ids ahead depth at_ = if shaD t ≠ d then .error 10 else .ok ((d, t, (depth + 1) * k), a3) := by
 rw [robj_1 h hb, hn]; simp only []; rw [if_neg hk, if_neg hd, ht]; simp only []
 rcases hr with ⟨h1, h2⟩ | ⟨h1, rfl⟩
 ·
  rw [if_pos h1, if_pos h1, h2, if_neg (by simp)]
 ·
  rw [if_neg h1, if_neg h1, if_neg (by simp)]
end
end Go.Pl
/- Two results, each in a cell of its own, of a function that holds a range over a function. No condition; no program. -/
namespace Go.Fw
open Go.RowKit
@[reducible] def CellSS (t u : Nat) (R : Value → World → Prop) (fr : Fr) (w : World) : Prop := ∃ a v b x, fr.get t = some (.pointer (some a)) ∧ w.cell? a = some v ∧ fr.get u = some (.pointer (some b)) ∧ w.cell? b = some x ∧ R (.tuple #[v, x]) w
theorem res_cellSS {P : Program} {n : NN} {fn : Func} {a : Act} {t u : Nat} {ty uy : TypeId} {d e : TypeDesc} {R : Value → World → Prop} (hr : fn.results = #[.cell t ty, .cell u uy]) (hT : P.underlying ty = some d) (hd : notAgg d = true) (hU : P.underlying uy = some e) (he : notAgg e = true)
  {fr : Fr} {w : World} (ha : Rep n a fr) (hD : CellSS t u R fr w) : ∃ v, (results fn a.tmps).run P w = .ok v w ∧ R v w := by
 obtain ⟨p, v, q, x, hp, hc, hq, hx, hR⟩ := hD
 have h1 := run_loadVar1 (P := P) hT hd hc
 have h2 := run_loadVar1 (P := P) hU he hx
 have e1 := ha.get t _ hp
 have e2 := ha.get u _ hq
 refine ⟨_, ?_, hR⟩
 simp [results, hr, e1, e2, asAddr, h1, h2]
theorem calls_of_CNss {P : Program} {w : World} {f : FuncId} {fn : Func} {c : Code} {args : List Value} {R : Value → World → Prop} (m t u : Nat) (fr0 : Fr) {ty uy : TypeId} {d e : TypeDesc}
  (hf : P.funcs[f]? = some fn) (hb : fn.body = some c) (hm : fn.ntmps = m) (hr : fn.results = #[.cell t ty, .cell u uy]) (hT : P.underlying ty = some d) (hU : P.underlying uy = some e) (hd : notAgg d = true) (he : notAgg e = true)
  (hsz : args.length ≤ m) (hargs : ∀ t v, fr0.get t = some v → args[t]? = some v)
  (h : CN P c m none [] (DoneNG (CellSS t u R)) fr0 w) : Calls P f args.toArray w (Ret R) :=
 calls_of_CNG m _ fr0 hf hb hm (fun _ _ _ _ ha hD => res_cellSS hr hT hd hU he ha hD) hsz hargs h
theorem calls_of_CWct_or {P : Program} {w : World} {f : FuncId} {fn : Func} {c : Code} {args : List Value} {R : Value → World → Prop} {S : List PanicEntry → World → Prop} (m t k : Nat) (ts : List Nat) (fr0 : Fr) {ty : TypeId} {d : TypeDesc}
  (hf : P.funcs[f]? = some fn) (hb : fn.body = some c) (hm : fn.ntmps = m) (hr : fn.results = (ResultVar.cell t ty :: ts.map ResultVar.tmp).toArray) (hT : P.underlying ty = some d) (hd : notAgg d = false) (hS : (P.info? ty).map (·.size) = some k)
  (hsz : args.length ≤ m) (hargs : ∀ t v, fr0.get t = some v → args[t]? = some v)
  (h : CW P c (m, [], none) (DoneG (CellT t k ts R) S) fr0 w) (hts : ts.length = 1 ∨ ts.length = 2 := by decide) : Calls P f args.toArray w (RetOr R S) :=
 calls_of_CWG m _ fr0 hf hb hm (fun a fr w ha hD => res_cellt hr hts hT hd hS ha hD) hsz hargs h
end Go.Fw
/- Packs are written: num, told, walked. No condition. -/
namespace Go.Proofs.YtfanmpbapabboaaDoor
open Go.RowKit Go.Fw Go.Pl Go.Sort
theorem knum_any (n : Int) (w : World) (hn : n < 9223372036854775808) : Calls Tryd.prog 28 #[.int .i64 n] w (Ret fun v w' => v = .string (bs (numB n)) ∧ Ext w w') := by
 refine calls_of_CW 12 [2] [(0, .int .i64 n)] Tryd.func28 rfl rfl rfl (by simp) args1 ?_
 have hE : Ext w w := Chg.refl
 refine CW.sr fun K1 hK1 => ?_
 refine WL.a rfl ?_
 refine WL.nil (hK1 _ _ ?_); try clear hK1
 refine CW.sr fun K2 hK2 => ?_
 refine WL.m rfl ?_
 refine WL.call Tryd.func48 rfl rfl rfl (num_any n _ hn) (by simp) ?_; rintro v7 w1 hR1
 obtain ⟨b8, rfl, hOb, hcb, hfb⟩ := hR1
 have hx1 : Ext w w1 := hcb.toExt (fun k _ h => by simp [Value.ownBlock] at h)
 have hE := hE.thenExt hx1
 have hOb : Own w1 5 1 b8 (bytesC (numB n)) := by simpa using hOb
 obtain ⟨A, m, c, rfl⟩ := hOb.lens
 refine WL.m rfl ?_
 refine WL.v (Y.extract rfl rfl) ?_
 refine WL.v (Y.extract rfl rfl) ?_
 refine WL.a rfl ?_
 refine WL.a rfl ?_
 refine WL.nil (hK2 _ _ ?_); try clear hK2
 refine CW.sr fun K3 hK3 => ?_
 refine WL.m rfl ?_
 refine WL.v (Y.bytes_string Tryd.underlying32 Tryd.underlying5 Tryd.underlying9 rfl hOb.by.len.1 hOb.by.mem.1 hOb.by.mem.2) ?_
 refine WL.a rfl ?_
 refine WL.nil (hK3 _ _ ?_); try clear hK3
 refine CW.ret ⟨_, rfl, ?_⟩
 exact ⟨rfl, hE⟩
set_option maxRecDepth 20000 in
theorem told_any (u v : Value) (ahead b : List UInt8) (first : Bool) (depth : Nat) (w : World) (hu : By w u ahead) (hv : By w v b) : Calls Tryd.prog 30 #[u, v, .bool first, .int .i64 (depth : Int)] w (Ret fun r w' => ∃ x, r = .tuple #[.int .i64 (toldK ahead b first depth : Int), x] ∧ By w' x (toldB ahead b first depth) ∧ (∀ k, x.ownBlock = some k → v.ownBlock = some k ∨ w.heap.size ≤ k) ∧ Ext w w') := by
 obtain ⟨A, m, c, rfl⟩ := hu.lens
 obtain ⟨B, n, cb, rfl⟩ := hv.lens
 have hn := hv.len.1
 refine calls_of_CW 35 [8, 9] [(0, .slice A m c), (1, .slice B n cb), (2, .bool first), (3, .int .i64 (depth : Int))] Tryd.func30 rfl rfl rfl (by simp) args4 ?_
 have hE : Ext w w := Chg.refl
 refine CW.sr fun K1 hK1 => ?_
 refine WL.a rfl ?_
 refine WL.a rfl ?_
 refine WL.nil (hK1 _ _ ?_); try clear hK1
 refine CW.seq fun K2 hK2 => ?_
 refine CW.seq_test 16 (first = true ∨ (4 : Int) ≤ (depth : Int)) ?_ ?_
 ·
  refine CW.region ?_
  refine WL.m rfl ?_
  refine WL.m rfl ?_
  (first | refine WL.casesD (d := 13) rfl ?_ ?_ | refine WL.casesND (d := 13) rfl ?_ ?_ | refine WL.cases (d := 13) rfl ?_ ?_) <;> intro hg13
  ·
   -- t13 = T
   refine WL.o rfl rfl ?_
   refine WL.o rfl rfl ?_
   refine WL.v (Y.pick rfl rfl) ?_
   refine WL.nil ⟨⟨_, rfl, ?_⟩, rfl, Fr.okp⟩
   exact tst_ok
  ·
   -- t13 = F
   refine WL.g rfl rfl (Y.move rfl) ?_
   refine WL.g rfl rfl (Y.geq rfl rfl) ?_
   refine WL.v (Y.pick rfl rfl) ?_
   refine WL.nil ⟨⟨_, rfl, ?_⟩, rfl, Fr.okp⟩
   exact tst_ok
 (first | refine cd_ rfl ?_ ?_ | refine ce_ rfl ?_ ?_ | refine cn_ rfl ?_ ?_ | refine cb_ rfl ?_ ?_) <;> intro ht3
 ·
  -- then
  refine CW.sr fun K4 hK4 => ?_
  refine WL.m rfl ?_
  refine WL.a rfl ?_
  refine WL.a rfl ?_
  refine WL.nil (hK4 _ _ ?_); try clear hK4
  refine CW.ret ⟨_, rfl, ?_⟩
  have hc : first = true ∨ 4 ≤ depth := by
   rcases (by assumption : first = true ∨ (4 : Int) ≤ (depth : Int)) with h | h
   ·
    exact .inl h
   ·
    exact .inr om_
  have hk : toldK ahead b first depth = 0 := by rw [toldK, if_pos hc]
  exact ⟨_, by rw [hk]; rfl, by rw [toldB, if_pos hk]; exact hv, fun k h => .inl h, hE⟩
 refine CW.skip ?_
 refine hK2 _ _ ?_; try clear hK2
 refine CW.sr fun K5 hK5 => ?_
 refine WL.m rfl ?_
 refine WL.m rfl ?_
 refine WL.call Tryd.func49 rfl rfl rfl (make_any _ _ ahead b _ hu hv) (by simp) ?_; rintro v21 w1 hR1
 obtain ⟨x, rfl, hO, hf, hx1⟩ := hR1
 have hE := hE.thenExt hx1
 have hv := hv.ext hx1
 obtain ⟨X, xm, xc, rfl⟩ := hO.lens
 have hxm := hO.by.len.1
 refine WL.m rfl ?_
 refine WL.v (Y.extract rfl rfl) ?_
 refine WL.v (Y.extract rfl rfl) ?_
 refine WL.a rfl ?_
 refine WL.a rfl ?_
 refine WL.nil (hK5 _ _ ?_); try clear hK5
 refine CW.seq fun K6 hK6 => ?_
 refine CW.seq_test 32 (mkE ahead b ≠ 0 ∨ (n : Int) ≤ (xm : Int)) ?_ ?_
 ·
  refine CW.region ?_
  refine WL.m rfl ?_
  refine WL.v (Y.neq rfl rfl) ?_
  refine WL.m rfl ?_
  (first | refine WL.casesD (d := 26) rfl ?_ ?_ | refine WL.casesND (d := 26) rfl ?_ ?_ | refine WL.cases (d := 26) rfl ?_ ?_) <;> intro hg26
  ·
   -- t26 = T
   refine WL.o rfl rfl ?_
   refine WL.o rfl rfl ?_
   refine WL.o rfl rfl ?_
   refine WL.o rfl rfl ?_
   refine WL.o rfl rfl ?_
   refine WL.v (Y.pick rfl rfl) ?_
   refine WL.nil ⟨⟨_, rfl, ?_⟩, rfl, Fr.okp⟩
   exact tst_ok
  ·
   -- t26 = F
   refine WL.g rfl rfl (Y.move rfl) ?_
   refine WL.g rfl rfl (Y.len_slice Tryd.underlying32 rfl) ?_
   refine WL.g rfl rfl (Y.move rfl) ?_
   refine WL.g rfl rfl (Y.len_slice Tryd.underlying32 rfl) ?_
   refine WL.g rfl rfl (Y.geq rfl rfl) ?_
   refine WL.v (Y.pick rfl rfl) ?_
   refine WL.nil ⟨⟨_, rfl, ?_⟩, rfl, Fr.okp⟩
   exact tst_ok
 (first | refine cd_ rfl ?_ ?_ | refine ce_ rfl ?_ ?_ | refine cn_ rfl ?_ ?_ | refine cb_ rfl ?_ ?_) <;> intro ht7
 ·
  -- then
  refine CW.sr fun K8 hK8 => ?_
  refine WL.m rfl ?_
  refine WL.a rfl ?_
  refine WL.a rfl ?_
  refine WL.nil (hK8 _ _ ?_); try clear hK8
  refine CW.ret ⟨_, rfl, ?_⟩
  have hk : toldK ahead b first depth = 0 := by
   unfold toldK
   split
   ·
    rfl
   ·
    rw [if_pos]
    rcases (by assumption : mkE ahead b ≠ 0 ∨ (n : Int) ≤ (xm : Int)) with h | h
    ·
     exact .inl h
    ·
     exact .inr om_
  exact ⟨_, by rw [hk]; rfl, by rw [toldB, if_pos hk]; exact hv, fun k h => .inl h, hE⟩
 refine CW.skip ?_
 refine hK6 _ _ ?_; try clear hK6
 refine CW.sr fun K9 hK9 => ?_
 refine WL.m rfl ?_
 refine WL.a rfl ?_
 refine WL.a rfl ?_
 refine WL.nil (hK9 _ _ ?_); try clear hK9
 refine CW.ret ⟨_, rfl, ?_⟩
 have hk : toldK ahead b first depth = 1 := by
  have h1 : ¬ (first = true ∨ (4 : Int) ≤ (depth : Int)) := by assumption
  have h2 : ¬ (mkE ahead b ≠ 0 ∨ (n : Int) ≤ (xm : Int)) := by assumption
  rw [toldK, if_neg, if_neg]
  ·
   rintro (h | h)
   ·
    exact h2 (.inl h)
   ·
    exact h2 (.inr om_)
  ·
   rintro (h | h)
   ·
    exact h1 (.inl h)
   ·
    exact h1 (.inr om_)
 exact ⟨_, by rw [hk]; rfl, by rw [toldB, if_neg om_]; exact hO.by, fun k h => .inr (hf k h), hE⟩
end Go.Proofs.YtfanmpbapabboaaDoor
