/- FuguePlays, walked. No condition. -/
import Derived.Test.YtffkmlkdlhkkmaaFj
import Derived.Test.YtffkmlkdlhkkmaaEl
import Derived.Test.YtffkmlkdlhkkmaaEi
set_option linter.unusedSimpArgs false
set_option linter.unusedVariables false
namespace Go.Fw
open Go.Fu Go.Pl
/-- Acts in memory. -/
structure Acts8 (w : World) (u : Value) (l : List ActV) : Prop where
  sl : Sl w actC 70 u l
  ops : ∀ x ∈ l, Sl w opC 37 x.com.pv x.com.ops
  fit : ∀ x ∈ l, x.com.ops.length * 72 ≤ 140737488355328
  few : l.length < 4398046511104
theorem Y.subN {P : Program} {n : NN} {fr : Fr} {w : World} {ty : TypeId} {x y : Operand} {a b : Int} {c : Nat} {t t' : TypeId} (hx : ev fr x = some (.int .i64 a)) (hy : ev fr y = some (.int .i64 b)) (h : a - b = (c : Int)) (hb : -9223372036854775808 ≤ a - b ∧ a - b ≤ 9223372036854775807) : Yw P n fr (.binOp .sub t x y t') ty w (.int .i64 (c : Int)) w := by
  rw [← h]; exact Y.sub hx hy ⟨by omega, by omega⟩
def b2n : Bool → Nat
  | false => 0
  | true => 1
theorem b2n_lt : ∀ s, b2n s < 2
  | false => by decide
  | true => by decide
theorem b2n_not (s : Bool) : (1 : Int) - (b2n s : Int) = (b2n (!s) : Int) := by cases s <;> rfl
/-- Two trees, the program's and the document's. -/
structure Pr8 where
  g : Nat
  rb : Nat
  ra : Nat
  ns : List Nn
  gr : Nat
  rs : List Rn
  av : Value
  ev : Value
  L : Coms
  T : Tr
end Go.Fw
namespace Go.Proofs.Ytffkmlkdlhkkmaa
open Go.RowKit Go.Fw Go.Fu Go.Pl
theorem sz0_fugueTree : (Try.prog.info? 27).map (·.size) = some 1 := by kernel_rfl
theorem sz0_recensionref08Tree : (Try.prog.info? 28).map (·.size) = some 1 := by kernel_rfl
theorem sz0_recensionlaw08Act : (Try.prog.info? TAc).map (·.size) = some 70 := by kernel_rfl
theorem sz_recensionlaw08Act (x : ActV) : (Try.prog.info? TAc).map (·.size) = some (actC x).length := by rw [actC_length]; exact sz0_recensionlaw08Act
theorem info_ac : ∃ i : TypeInfo, Try.prog.info? TAc = some i ∧ i.zero = some (.agg (actC ⟨0, false, CmV.zero, 0, RefD.zero⟩).toArray) ∧ i.size = 70 := by
  have h : (Try.prog.info? TAc).map (fun i => (i.zero, i.size)) = some (some (.agg (actC ⟨0, false, CmV.zero, 0, RefD.zero⟩).toArray), 70) := by kernel_rfl
  obtain ⟨i, hi, h⟩ := Option.map_eq_some_iff.1 h
  injection h with h1 h2
  exact ⟨i, hi, h1, h2⟩
theorem as_recensionlaw08Act {n : NN} {Φ : Exit → Fr → World → Prop} {fr : Fr} {w : World} {ops : Array Oper} {rest : List Oper} {d : Nat} {x : Operand} {ty ty' : TypeId} {pos pos' : String} {aft aft' : Array Edge} {v : ActV}
    (hx : ev fr x = some (.agg (actC v).toArray)) (hxd : x ≠ .tmp d) (hd : d < n.1)
    (h : ∀ g w', Ext w w' → w.heap.size ≤ g → Blk w' g TAc (actC v) → WL Try.prog ops n Φ rest ((d, .pointer (some ⟨g, 0, none⟩)) :: fr) w') :
    WL Try.prog ops n Φ (⟨some d, .alloc TAc, ty, pos, aft, none⟩ :: ⟨none, .store TAc (.tmp d) x, ty', pos', aft', none⟩ :: rest) fr w := by
  obtain ⟨i, hi, hz, hs⟩ := info_ac
  exact WL.allocStore (zs := actC ⟨0, false, CmV.zero, 0, RefD.zero⟩) hi hz rfl (by rw [hs, actC_length]) (by rw [actC_length, actC_length]) hx hxd rfl one_actC hd h
theorem ai_pt {t : TypeId} (h : (Try.prog.info? t).map (fun i => (i.zero, i.size)) = some (some (.pointer none), 1)) : ∃ i : TypeInfo, Try.prog.info? t = some i ∧ i.zero = some (.pointer none) ∧ i.size = 1 := by
  obtain ⟨i, hi, h⟩ := Option.map_eq_some_iff.1 h
  injection h with h1 h2
  exact ⟨i, hi, h1, h2⟩
theorem bs2_pt (a b : Option Addr) (w : World) : (Instr.buildSlice 80 2 [(0, .pointer a), (1, .pointer b)].toArray).run Try.prog w = .ok (.slice (some ⟨w.heap.size, 0, none⟩) 2 2) (w.alloc (.cells [.pointer a, .pointer b].toArray 27)) := by
  obtain ⟨i, hi, hz, hs⟩ := ai_pt (t := 27) (by kernel_rfl)
  exact run_bsK2 (xs := [.pointer a]) (ys := [.pointer b]) Try.underlying80 hi hz (by omega) (by omega) rfl rfl (by rw [hs]; rfl) (by rw [hs]; rfl) w
theorem bs2_rt (a b : Option Addr) (w : World) : (Instr.buildSlice 82 2 [(0, .pointer a), (1, .pointer b)].toArray).run Try.prog w = .ok (.slice (some ⟨w.heap.size, 0, none⟩) 2 2) (w.alloc (.cells [.pointer a, .pointer b].toArray 28)) := by
  obtain ⟨i, hi, hz, hs⟩ := ai_pt (t := 28) (by kernel_rfl)
  exact run_bsK2 (xs := [.pointer a]) (ys := [.pointer b]) Try.underlying82 hi hz (by omega) (by omega) rfl rfl (by rw [hs]; rfl) (by rw [hs]; rfl) w
def _root_.Go.Fw.Pr8.F (p : Pr8) (q : Nat) : Prop := Fp p.g p.rb p.ra p.ns q ∨ Rp p.gr p.rs p.av p.ev q
abbrev _root_.Go.Fw.Pr8.Two (p : Pr8) (w : World) : Prop := Two8 w p.g p.rb p.ra p.ns p.gr p.rs p.av p.ev p.L p.T
theorem Two8.chg8 {w w' : World} {S : Nat → Prop} {p : Pr8} (h : p.Two w) (hc : Chg S w w') (hs : ∀ q, p.F q → ¬ S q) : p.Two w' := ⟨h.ft.chg hc (fun q hq => hs q (.inl hq)), h.fe, h.rt.chg hc (fun q hq => hs q (.inr hq)), h.re, h.ok, h.dis⟩
theorem Two8.lt8 {w : World} {p : Pr8} (h : p.Two w) {q : Nat} (hq : p.F q) : q < w.heap.size := by
  rcases hq with hq | hq
  · exact h.ft.lt hq
  · exact h.rt.lt hq
abbrev pt (g : Nat) : Value := .pointer (some ⟨g, 0, none⟩)
/-- What holds at each act: two pairs of trees, each by itself, and the two lists that name them. -/
structure PlI (w0 w : World) (bt br x : Nat) (P : Bool → Pr8) : Prop where
  two : ∀ s, (P s).Two w
  dis : ∀ q, (P false).F q → ¬ (P true).F q
  lo : ∀ s q, (P s).F q → w0.heap.size ≤ q ∧ q ≠ bt ∧ q ≠ br
  few : ∀ s, (P s).T.ad.length ≤ x
  bt_ : Blk w bt 27 [pt (P false).g, pt (P true).g]
  br_ : Blk w br 28 [pt (P false).gr, pt (P true).gr]
section
variable {w0 w w' : World} {bt br x : Nat} {P : Bool → Pr8}
theorem PlI.ext (h : PlI w0 w bt br x P) (hx : Ext w w') : PlI w0 w' bt br x P := ⟨fun s => (h.two s).ext hx, h.dis, h.lo, h.few, h.bt_.ext hx, h.br_.ext hx⟩
theorem cell2 {g : Nat} {T : TypeId} {a b : Value} (h : Blk w g T [a, b]) (s : Bool) : w.cell? (Addr.add ⟨g, 0, none⟩ (b2n s * 1)) = some (cond s b a) := by
  cases s
  · exact h.mem.cell 0 rfl
  · exact h.mem.cell 1 rfl
theorem PlI.cellT (h : PlI w0 w bt br x P) (s : Bool) : w.cell? (Addr.add ⟨bt, 0, none⟩ (b2n s * 1)) = some (pt (P s).g) := by
  rw [cell2 h.bt_ s]; cases s <;> rfl
theorem PlI.cellR (h : PlI w0 w bt br x P) (s : Bool) : w.cell? (Addr.add ⟨br, 0, none⟩ (b2n s * 1)) = some (pt (P s).gr) := by
  rw [cell2 h.br_ s]; cases s <;> rfl
theorem cellP {g : Nat} {T : TypeId} {b : Value} (f : Pr8 → Nat) (s : Bool) (h : Blk w g T ((cond s [] [pt (f (P false))] ++ [b]) ++ cond s [pt (f (P true))] [])) : w.cell? (Addr.add ⟨g, 0, none⟩ (b2n s * 1)) = some (pt (f (P s))) := by
  cases s
  · exact cell2 h false
  · exact cell2 h true
theorem PlI.goodF (h : PlI w0 w bt br x P) (s : Bool) : Fu.Good (Fw.els (P s).ns) := by rw [(h.two s).fe]; exact (h.two s).ok.good
theorem PlI.goodR (h : PlI w0 w bt br x P) (s : Bool) : Fu.Good (rels (P s).rs) := by rw [(h.two s).re]; exact (h.two s).ok.good
theorem PlI.lenF (h : PlI w0 w bt br x P) (s : Bool) : (P s).ns.length ≤ 400001 := by
  have h1 : (Fw.els (P s).ns).length = (P s).ns.length := List.length_map _
  rw [← h1, (h.two s).fe]; exact (h.two s).ok.few
theorem PlI.lenR (h : PlI w0 w bt br x P) (s : Bool) : (P s).rs.length ≤ 400001 := by
  have h1 : (rels (P s).rs).length = (P s).rs.length := List.length_map _
  rw [← h1, (h.two s).re]; exact (h.two s).ok.few
theorem side_few {e : List El} (hG : Fu.Good e) {x : El} (hx : x ∈ e) (s : Bool) : (side x s).length ≤ e.length := by
  obtain ⟨a, ha⟩ := List.mem_iff_getElem?.1 hx
  have hsort : Srt (nms e (side x s)) := by
    have := hG.sort a x ha
    cases s
    · exact this.2
    · exact this.1
  have hnd : (side x s).Nodup := by
    have : (side x s).Pairwise fun y z => nameLt (nm e y) (nm e z) = true := List.pairwise_map.1 hsort
    exact this.imp fun {y z} hlt e9 => by rw [e9, nlt_irrefl] at hlt; cases hlt
  have := sum_sub (fun _ => 1) (l := side x s) (m := List.range e.length) hnd fun c hc => List.mem_range.2 (hG.down a x ha c (by
    unfold side at hc
    cases s <;> first | exact .inr hc | exact .inl hc)).2
  have hcn : ∀ l : List Nat, (l.map fun _ => 1).sum = l.length := fun l => by
    induction l with
    | nil => rfl
    | cons y r ih => simp only [List.map_cons, List.sum_cons, ih, List.length_cons]; omega
  rwa [hcn, hcn, List.length_range] at this
theorem PlI.sideR (h : PlI w0 w bt br x P) (s : Bool) : ∀ y ∈ (P s).rs, ∀ t, (side y.el t).length ≤ 400001 := fun y hy t => by
  have h1 := side_few (h.goodR s) (List.mem_map.2 ⟨y, hy, rfl⟩) t
  have h2 : (rels (P s).rs).length = (P s).rs.length := List.length_map _
  have := h.lenR s
  omega
theorem PlI.textF (h : PlI w0 w bt br x P) (s : Bool) : Calls Try.prog 15 #[pt (P s).g] w (Ret fun v w' => v = .string (bs (textE (P s).T.e)) ∧ Ext w w') := by
  have := ftext_any _ _ _ _ _ w (h.two s).ft (h.goodF s) (h.lenF s)
  rw [(h.two s).fe] at this; exact this
theorem PlI.textR (h : PlI w0 w bt br x P) (s : Bool) : Calls Try.prog 19 #[pt (P s).gr] w (Ret fun v w' => v = .string (bs (textE (P s).T.e)) ∧ Ext w w') := by
  have := rtext_any _ _ _ _ _ w (h.two s).rt (h.goodR s) (h.lenR s)
  rw [(h.two s).re] at this; exact this
/-- One of the two is another one. -/
theorem PlI.put (h : PlI w0 w bt br x P) (s : Bool) (p : Pr8) {n : Nat} (hxn : x ≤ n) (ht : p.Two w') (ho : (P (!s)).Two w') (hf : ∀ q, p.F q → (P s).F q ∨ w.heap.size ≤ q) (hfew : p.T.ad.length ≤ n)
    (hbt : Blk w' bt 27 [pt (cond s (P false).g p.g), pt (cond s p.g (P true).g)]) (hbr : Blk w' br 28 [pt (cond s (P false).gr p.gr), pt (cond s p.gr (P true).gr)]) : PlI w0 w' bt br n (fun t => cond (t == s) p (P t)) := by
  have hlt1 := h.bt_.lt
  have hlt2 := h.br_.lt
  have hlow : ∀ q, p.F q → w0.heap.size ≤ w.heap.size → w0.heap.size ≤ q ∧ q ≠ bt ∧ q ≠ br := fun q hq hz => by
    rcases hf q hq with h1 | h1
    · exact h.lo s q h1
    · omega
  have hzz : w0.heap.size ≤ w.heap.size := by
    have h1 := h.lo s (P s).g (.inl (.inl rfl))
    have h2 := (h.two s).lt8 (q := (P s).g) (.inl (.inl rfl))
    omega
  have hd : ∀ q, p.F q → ¬ (P (!s)).F q := fun q hq h2 => by
    rcases hf q hq with h1 | h1
    · cases s
      · exact h.dis q h1 h2
      · exact h.dis q h2 h1
    · have := (h.two (!s)).lt8 h2; omega
  refine ⟨fun t => ?_, fun q h1 h2 => ?_, fun t q hq => ?_, fun t => ?_, ?_, ?_⟩
  · cases t <;> cases s <;> first | exact ht | exact ho
  · cases s
    · exact hd q h1 h2
    · exact hd q h2 h1
  · cases t <;> cases s <;> first | exact hlow q hq hzz | exact h.lo _ q hq
  · have h1 := h.few t
    cases t <;> cases s <;> first | exact hfew | exact Nat.le_trans h1 hxn
  · cases s <;> exact hbt
  · cases s <;> exact hbr
end

set_option maxRecDepth 100000 in
set_option maxHeartbeats 4000000 in
theorem plays_any (u : Value) (l : List ActV) (w : World) (hl : Acts8 w u l) : Calls Try.prog 10 #[u] w (Ret fun v w' => v = .bool true ∧ Ext w w') := by
  obtain ⟨A, m, c, rfl, hm, hmc, hcm, _⟩ := _root_.id hl.sl
  unfold maxLen at hcm
  have hfw := hl.few
  refine calls_of_CW 95 [2] [(0, .slice A m c)] Try.func10 rfl rfl rfl (by simp) args1 ?_
  have hE : Ext w w := Chg.refl
  refine CW.seq fun K1 hK1 => ?_
  refine CW.region ?_   -- region 0
  refine WL.val (Y.assign rfl) (by decide) ?_   -- t2 := assign c(false)
  refine WL.nil ?_
  refine hK1 _ _ ?_; try clear hK1 K1
  refine CW.seq fun K2 hK2 => ?_
  refine CW.region ?_   -- region 1
  refine WL.call Try.func30 rfl rfl rfl (fnew_any _) (by simp) ?_; rintro v8 w1 hR1   -- t8 := call F30() : 
  obtain ⟨ga, rba, raa, gna, rfl, ha1, ha2, ha3, ha4, hTa, hx1⟩ := hR1
  have hz1 := hx1.size
  have hE := hE.thenExt hx1
  refine WL.call Try.func30 rfl rfl rfl (fnew_any _) (by simp) ?_; rintro v9 w2 hR2   -- t9 := call F30() : 
  obtain ⟨gb, rbb, rab, gnb, rfl, hb1, hb2, hb3, hb4, hTb, hx2⟩ := hR2
  have hz2 := hx2.size
  have hE := hE.thenExt hx2
  refine WL.st (St.buildSlice rfl (bs2_pt _ _)) (by decide) fun v10 w3 hR3 => ?_   -- t10 := buildSlice 80 2 [(0,t8), (1,t9)]
  obtain ⟨bt, rfl, hbt, hBt, hx3⟩ := hR3
  have hz3 := hx3.size
  have hE := hE.thenExt hx3
  have hlbt := hBt.lt
  refine WL.val (Y.assign rfl) (by decide) ?_   -- t3 := assign t10
  refine WL.nil ?_
  refine hK2 _ _ ?_; try clear hK2 K2
  refine CW.seq fun K3 hK3 => ?_
  refine CW.region ?_   -- region 2
  refine WL.call Try.func31 rfl rfl rfl (rnew_any _) (by simp) ?_; rintro v11 w4 hR4   -- t11 := call F31() : 
  obtain ⟨gra, eva, rfl, hga0, heva, hRa, hx4⟩ := hR4
  have hz4 := hx4.size
  have hE := hE.thenExt hx4
  refine WL.call Try.func31 rfl rfl rfl (rnew_any _) (by simp) ?_; rintro v12 w5 hR5   -- t12 := call F31() : 
  obtain ⟨grb, evb, rfl, hgb0, hevb, hRb, hx5⟩ := hR5
  have hz5 := hx5.size
  have hE := hE.thenExt hx5
  refine WL.st (St.buildSlice rfl (bs2_rt _ _)) (by decide) fun v13 w6 hR6 => ?_   -- t13 := buildSlice 82 2 [(0,t11), (1,t12)]
  obtain ⟨br, rfl, hbr, hBr, hx6⟩ := hR6
  have hz6 := hx6.size
  have hE := hE.thenExt hx6
  obtain ⟨P0, hP0⟩ : ∃ P0 : Bool → Pr8, P0 = fun s => cond s ⟨gb, rbb, rab, newN gnb, grb, [⟨El.root, .slice none 0 0, .slice none 0 0⟩], .slice none 0 0, evb, [], Tr.new⟩ ⟨ga, rba, raa, newN gna, gra, [⟨El.root, .slice none 0 0, .slice none 0 0⟩], .slice none 0 0, eva, [], Tr.new⟩ := ⟨_, rfl⟩
  have hnewR : ∀ (gr : Nat) (ev0 : Value) (n q : Nat), n ≤ gr → (∀ k, ev0.ownBlock = some k → n ≤ k) → Rp gr [⟨El.root, .slice none 0 0, .slice none 0 0⟩] (.slice none 0 0) ev0 q → n ≤ q := fun gr ev0 n q h1 h2 hq => by
    rcases hq with h | h | h | ⟨x, hx, s, h⟩
    · omega
    · simp [Value.ownBlock] at h
    · exact h2 q h
    · simp at hx; subst hx; cases s <;> simp [Rn.sv, Value.ownBlock] at h
  have hFa : ∀ q, Fp ga rba raa (newN gna) q → w.heap.size ≤ q ∧ q < w1.heap.size := fun q hq => ⟨by have := hq.ofNew; omega, hTa.lt hq⟩
  have hFb : ∀ q, Fp gb rbb rab (newN gnb) q → w1.heap.size ≤ q ∧ q < w2.heap.size := fun q hq => ⟨by have := hq.ofNew; omega, hTb.lt hq⟩
  have hRa1 := fun q hq => And.intro (hnewR gra eva _ q hga0 heva hq) (hRa.lt hq)
  have hRb1 := fun q hq => And.intro (hnewR grb evb _ q hgb0 hevb hq) (hRb.lt hq)
  have hP : PlI w w6 bt br 0 P0 := {
    two := fun s => by
      subst hP0
      cases s
      · exact ⟨((((hTa.ext hx2).ext hx3).ext hx4).ext hx5).ext hx6, rfl, (hRa.ext hx5).ext hx6, rfl, treeOk_new, fun q h1 h2 => by have := hRa1 q h1; have := hFa q h2; omega⟩
      · exact ⟨(((hTb.ext hx3).ext hx4).ext hx5).ext hx6, rfl, hRb.ext hx6, rfl, treeOk_new, fun q h1 h2 => by have := hRb1 q h1; have := hFb q h2; omega⟩
    dis := fun q h1 h2 => by
      subst hP0
      rcases h1 with h1 | h1 <;> rcases h2 with h2 | h2
      · have := hFa q h1; have := hFb q h2; omega
      · have := hFa q h1; have := hRb1 q h2; omega
      · have := hRa1 q h1; have := hFb q h2; omega
      · have := hRa1 q h1; have := hRb1 q h2; omega
    lo := fun s q hq => by
      subst hP0
      cases s
      · rcases hq with h | h
        · have := hFa q h; omega
        · have := hRa1 q h; omega
      · rcases hq with h | h
        · have := hFb q h; omega
        · have := hRb1 q h; omega
    few := fun s => by subst hP0; cases s <;> exact Nat.le_refl _
    bt_ := by subst hP0; exact ((hBt.ext hx4).ext hx5).ext hx6
    br_ := by subst hP0; exact hBr }
  refine WL.val (Y.assign rfl) (by decide) ?_   -- t4 := assign t13
  refine WL.nil ?_
  refine hK3 _ _ ?_; try clear hK3 K3
  refine CW.seq fun K4 hK4 => ?_
  refine CW.seq_testE 27 (False) ?_ ?_
  · refine CW.region ?_
    refine WL.val (Y.move rfl) (by decide) ?_   -- t14 := move t3
    refine WL.val (Y.indexAddrN (i := 0) Try.underlying80 rfl rfl sz0_fugueTree (by decide)) (by decide) ?_   -- t15 := indexAddr 80 t14 c(0:i64)
    refine WL.val (Y.load1 Try.underlying27 rfl (hP.cellT false) rfl) (by decide) ?_   -- t16 := load 27 t15
    refine WL.val (Y.eql_fugueTree rfl rfl) (by decide) ?_   -- t17 := binOp eql 27 t16 c(['Go.Value.pointer', 'none']) 27
    refine WL.val (Y.move rfl) (by decide) ?_   -- t18 := move t17
    first | refine WL.casesD (d := 18) rfl (fun hg18 => ?_) (fun hg18 => ?_) | refine WL.casesND (d := 18) rfl (fun hg18 => ?_) (fun hg18 => ?_) | refine WL.cases (d := 18) rfl (fun hg18 => ?_) (fun hg18 => ?_)
    · -- t18 = T
      refine WL.goff rfl rfl (by decide) ?_   -- t19 := move t3 [if 4=false]
      refine WL.goff rfl rfl (by decide) ?_   -- t20 := indexAddr 80 t19 c(1:i64) [if 4=false]
      refine WL.goff rfl rfl (by decide) ?_   -- t21 := load 27 t20 [if 4=false]
      refine WL.goff rfl rfl (by decide) ?_   -- t22 := binOp eql 27 t21 c(['Go.Value.pointer', 'none']) 27 [if 4=false]
      refine WL.val (Y.pick rfl rfl) (by decide) ?_   -- t23 := pick t18 c(true) t22
      refine WL.val (Y.move rfl) (by decide) ?_   -- t24 := move t23
      refine WL.goff rfl rfl (by decide) ?_   -- t25 := call F12() :  [if 10=false]
      refine WL.goff rfl rfl (by decide) ?_   -- t26 := unOp not 4 t25 [if 10=false]
      refine WL.val (Y.pick rfl rfl) (by decide) ?_   -- t27 := pick t24 c(true) t26
      refine WL.nil ⟨⟨_, rfl, ?_⟩, Chg.refl, (by repeat (first | exact Fr.le.refl | refine Fr.le.push rfl ?_))⟩
      first | (simp only [*, Int.natCast_inj, Bool.not_eq_true', decide_eq_false_iff_not, decide_eq_true_eq, not_true_eq_false, not_false_eq_true, true_and, false_and, and_true, and_false, false_or, or_false, true_or, or_true, iff_true, true_iff, iff_false, false_iff]; done) | (simp_all; done) | (refine congrArg Value.bool (Bool.eq_iff_iff.2 ?_); simp_all; done) | (simp_all; omega)
    · -- t18 = F
      refine WL.gval rfl rfl (Y.move rfl) (by decide) ?_   -- t19 := move t3 [if 4=false]
      refine WL.gval rfl rfl (Y.indexAddrN (i := 1) Try.underlying80 rfl rfl sz0_fugueTree (by decide)) (by decide) ?_   -- t20 := indexAddr 80 t19 c(1:i64) [if 4=false]
      refine WL.gval rfl rfl (Y.load1 Try.underlying27 rfl (hP.cellT true) rfl) (by decide) ?_   -- t21 := load 27 t20 [if 4=false]
      refine WL.gval rfl rfl (Y.eql_fugueTree rfl rfl) (by decide) ?_   -- t22 := binOp eql 27 t21 c(['Go.Value.pointer', 'none']) 27 [if 4=false]
      refine WL.val (Y.pick rfl rfl) (by decide) ?_   -- t23 := pick t18 c(true) t22
      refine WL.val (Y.move rfl) (by decide) ?_   -- t24 := move t23
      first | refine WL.casesD (d := 24) rfl (fun hg24 => ?_) (fun hg24 => ?_) | refine WL.casesND (d := 24) rfl (fun hg24 => ?_) (fun hg24 => ?_) | refine WL.cases (d := 24) rfl (fun hg24 => ?_) (fun hg24 => ?_)
      · -- t24 = T
        refine WL.goff rfl rfl (by decide) ?_   -- t25 := call F12() :  [if 10=false]
        refine WL.goff rfl rfl (by decide) ?_   -- t26 := unOp not 4 t25 [if 10=false]
        refine WL.val (Y.pick rfl rfl) (by decide) ?_   -- t27 := pick t24 c(true) t26
        refine WL.nil ⟨⟨_, rfl, ?_⟩, Chg.refl, (by repeat (first | exact Fr.le.refl | refine Fr.le.push rfl ?_))⟩
        first | (simp only [*, Int.natCast_inj, Bool.not_eq_true', decide_eq_false_iff_not, decide_eq_true_eq, not_true_eq_false, not_false_eq_true, true_and, false_and, and_true, and_false, false_or, or_false, true_or, or_true, iff_true, true_iff, iff_false, false_iff]; done) | (simp_all; done) | (refine congrArg Value.bool (Bool.eq_iff_iff.2 ?_); simp_all; done) | (simp_all; omega)
      · -- t24 = F
        refine WL.gcall rfl rfl Try.func12 rfl rfl rfl (alive_any _) (by decide) ?_; rintro v w7 ⟨rfl, hx7⟩; have hz7 := hx7.size; have hE := hE.thenExt hx7   -- t25 := call F12() :  [if 10=false]
        refine WL.gval rfl rfl (Y.not rfl) (by decide) ?_   -- t26 := unOp not 4 t25 [if 10=false]
        refine WL.val (Y.pick rfl rfl) (by decide) ?_   -- t27 := pick t24 c(true) t26
        refine WL.nil ⟨⟨_, rfl, ?_⟩, hx7, (by repeat (first | exact Fr.le.refl | refine Fr.le.push rfl ?_))⟩
        first | (simp only [*, Int.natCast_inj, Bool.not_eq_true', decide_eq_false_iff_not, decide_eq_true_eq, not_true_eq_false, not_false_eq_true, true_and, false_and, and_true, and_false, false_or, or_false, true_or, or_true, iff_true, true_iff, iff_false, false_iff]; done) | (simp_all; done) | (refine congrArg Value.bool (Bool.eq_iff_iff.2 ?_); simp_all; done) | (simp_all; omega)
  intro w8 hx8; have hz8 := hx8.size; have hE := hE.thenExt hx8
  first | refine CW.condD rfl (fun ht5 => ?_) (fun ht5 => ?_) | refine CW.condND rfl (fun ht5 => ?_) (fun ht5 => ?_) | refine CW.condN rfl (fun ht5 => ?_) (fun ht5 => ?_) | refine CW.cond rfl (fun ht5 => ?_) (fun ht5 => ?_)
  · -- then
    refine CW.seq fun K6 hK6 => ?_
    refine CW.region ?_   -- region 4
    refine WL.val (Y.assign rfl) (by decide) ?_   -- t2 := assign c(false)
    refine WL.nil ?_
    refine hK6 _ _ ?_; try clear hK6 K6
    refine CW.ret ⟨_, rfl, ?_⟩
    exact False.elim (by assumption)
  -- else
  refine CW.skip ?_
  refine hK4 _ _ ?_; try clear hK4 K4
  refine CW.seq fun K7 hK7 => ?_
  refine CW.seq fun K8 hK8 => ?_
  refine CW.region ?_   -- region 5
  refine WL.val (Y.move rfl) (by decide) ?_   -- t28 := move t0
  refine WL.val (Y.len_slice Try.underlying79 rfl) (by decide) ?_   -- t29 := call len(t28) : 79
  refine WL.val (Y.move rfl) (by decide) ?_   -- t30 := move c(0:i64)
  refine WL.nil ?_
  refine hK8 _ _ ?_; try clear hK8 K8
  refine CW.block ?_   -- block 0
  refine CW.loop (X := Nat × (Bool → Pr8)) (fun x => [(3, .slice (some ⟨bt, 0, none⟩) 2 2), (4, .slice (some ⟨br, 0, none⟩) 2 2), (28, .slice A m c), (29, .int .i64 (m : Int)), (30, .int .i64 (x.1 : Int))]) (fun x w0 => x.1 ≤ m ∧ PlI w w0 bt br x.1 x.2 ∧ Ext w w0) (fun x => m - x.1) (0, P0) (by repeat (first | exact Fr.le.nil | refine Fr.le.cons rfl ?_)) ⟨Nat.zero_le _, hP.ext hx8, hE⟩ ?_
  intro x w9 hl9
  obtain ⟨k, P⟩ := x
  dsimp only at hl9 ⊢
  obtain ⟨hkm, hP, hE⟩ := hl9
  have hltb9 := hP.bt_.lt
  have hltr9 := hP.br_.lt
  refine CW.seq fun K9 hK9 => ?_
  refine CW.region ?_   -- region 6
  refine WL.val (Y.lss rfl rfl) (by decide) ?_   -- t31 := binOp lss 3 t30 t29 3
  refine WL.nil ?_
  refine hK9 _ _ ?_; try clear hK9 K9
  refine CW.seq fun K10 hK10 => ?_
  first | refine CW.condD rfl (fun ht11 => ?_) (fun ht11 => ?_) | refine CW.condND rfl (fun ht11 => ?_) (fun ht11 => ?_) | refine CW.condN rfl (fun ht11 => ?_) (fun ht11 => ?_) | refine CW.cond rfl (fun ht11 => ?_) (fun ht11 => ?_)
  · -- then
    refine CW.skip ?_
    refine hK10 _ _ ?_; try clear hK10 K10
    refine CW.seq fun K12 hK12 => ?_
    refine CW.block ?_   -- block 1
    refine CW.seq fun K13 hK13 => ?_
    obtain ⟨y, hy⟩ : ∃ y, l[k]? = some y := ⟨_, List.getElem?_eq_getElem (by omega)⟩
    have hym := List.mem_of_getElem? hy
    obtain ⟨ua, rfl, hmy⟩ := (hl.sl.ext hE).get hy
    refine CW.region ?_   -- region 7
    refine WL.val (Y.indexAddrN Try.underlying79 rfl rfl sz0_recensionlaw08Act (by omega)) (by decide) ?_   -- t32 := indexAddr 79 t28 t30
    refine WL.val (Y.load Try.underlying75 rfl hmy (sz_recensionlaw08Act _) rfl) (by decide) ?_   -- t33 := load 75 t32
    refine as_recensionlaw08Act rfl (by simp) (by decide) fun g6 w10 hx10 hg6 hB6 => ?_   -- alloc 75; store 75 t6 t33
    have hlt6 := hB6.lt; have hz10 := hx10.size
    have hM6 := hB6.mem; have hz10 := hx10.size; have hE := hE.thenExt hx10
    refine WL.nil ?_
    refine hK13 _ _ ?_; try clear hK13 K13
    refine CW.seq fun K14 hK14 => ?_
    refine CW.region ?_   -- region 8
    refine WL.val (Y.assign rfl) (by decide) ?_   -- t7 := assign c(0:i64)
    refine WL.nil ?_
    refine hK14 _ _ ?_; try clear hK14 K14
    refine CW.seq_to (X := Unit) (fun _ => [(3, .slice (some ⟨bt, 0, none⟩) 2 2), (4, .slice (some ⟨br, 0, none⟩) 2 2), (28, .slice (some ua) m c), (29, .int .i64 (m : Int)), (30, .int .i64 (k : Int)), (6, .pointer (some ⟨g6, 0, none⟩)), (7, .int .i64 (b2n y.two : Int))]) (fun _ wj => Ext w10 wj) ?_ ?_
    · skip
      refine CW.seq fun K16 hK16 => ?_
      refine CW.region ?_   -- region 9
      refine WL.val (Y.fieldAddr fo_recensionlaw08Act1 rfl) (by decide) ?_   -- t34 := fieldAddr 75 t6 1
      refine WL.val (Y.load1 Try.underlying4 rfl hB6.mem.recensionlaw08Act1 rfl) (by decide) ?_   -- t35 := load 4 t34
      refine WL.nil ?_
      refine hK16 _ _ ?_; try clear hK16 K16
      first | refine CW.condD rfl (fun ht17 => ?_) (fun ht17 => ?_) | refine CW.condND rfl (fun ht17 => ?_) (fun ht17 => ?_) | refine CW.condN rfl (fun ht17 => ?_) (fun ht17 => ?_) | refine CW.cond rfl (fun ht17 => ?_) (fun ht17 => ?_)
      · -- then
        refine CW.region ?_   -- region 10
        refine WL.val (Y.assign rfl) (by decide) ?_   -- t7 := assign c(1:i64)
        refine WL.nil ?_
        exact ⟨(), (by rw [show y.two = true by assumption]; exact (by repeat (first | exact Fr.le.nil | refine Fr.le.cons rfl ?_))), Chg.refl⟩
      -- else
      refine CW.skip ?_
      exact ⟨(), (by rw [show y.two = false by simp_all]; exact (by repeat (first | exact Fr.le.nil | refine Fr.le.cons rfl ?_))), Chg.refl⟩
    rintro u w11 hj11
    have hE := hE.thenExt hj11
    have hB6 := hB6.ext hj11
    have hP := (hP.ext hx10).ext hj11
    have hz11 := hj11.size
    have hlt6 := hB6.lt
    have hltb := hP.bt_.lt
    have hltr := hP.br_.lt
    refine CW.seq_to (X := Bool → Pr8) (fun _ => [(3, .slice (some ⟨bt, 0, none⟩) 2 2), (4, .slice (some ⟨br, 0, none⟩) 2 2), (28, .slice (some ua) m c), (29, .int .i64 (m : Int)), (30, .int .i64 (k : Int)), (6, .pointer (some ⟨g6, 0, none⟩)), (7, .int .i64 (b2n y.two : Int))]) (fun P2 wj => PlI w wj bt br k P2 ∧ Ext w wj ∧ Blk wj g6 TAc (actC y)) ?_ ?_
    · skip
      refine CW.seq fun K19 hK19 => ?_
      refine CW.region ?_   -- region 11
      refine WL.val (Y.fieldAddr fo_recensionlaw08Act0 rfl) (by decide) ?_   -- t36 := fieldAddr 75 t6 0
      refine WL.val (Y.load1 Try.underlying3 rfl hB6.mem.recensionlaw08Act0 rfl) (by decide) ?_   -- t37 := load 3 t36
      refine WL.val (Y.eql rfl rfl) (by decide) ?_   -- t38 := binOp eql 3 t37 c(5:i64) 3
      refine WL.nil ?_
      refine hK19 _ _ ?_; try clear hK19 K19
      first | refine CW.condD rfl (fun ht20 => ?_) (fun ht20 => ?_) | refine CW.condND rfl (fun ht20 => ?_) (fun ht20 => ?_) | refine CW.condN rfl (fun ht20 => ?_) (fun ht20 => ?_) | refine CW.cond rfl (fun ht20 => ?_) (fun ht20 => ?_)
      · -- then
        refine CW.seq fun K21 hK21 => ?_
        refine CW.held (fun wq => Chg (fun q => q = bt ∨ q = br) w11 wq ∧ World.cell? wq (Addr.add ⟨bt, 0, none⟩ (b2n y.two * 1)) = some (pt (P y.two).g) ∧ World.cell? wq (Addr.add ⟨br, 0, none⟩ (b2n y.two * 1)) = some (pt (P y.two).gr)) (by kernel_rfl) 20 rfl fun w12 hx12 => ?_
        have hP := hP.ext hx12
        have hz12 := hx12.size
        have hS : Chg (fun q => q = bt ∨ q = br) w11 w12 ∧ World.cell? w12 (Addr.add ⟨bt, 0, none⟩ (b2n y.two * 1)) = some (pt (P y.two).g) ∧ World.cell? w12 (Addr.add ⟨br, 0, none⟩ (b2n y.two * 1)) = some (pt (P y.two).gr) := ⟨Ext.chg hx12, hP.cellT y.two, hP.cellR y.two⟩
        have hTw := hP.two y.two
        have hP12 := hP
        refine RH.take 0 (fun _ _ _ _ h => h) (by kernel_rfl) hS rfl (by kernel_rfl) (by kernel_rfl) (fun wq hq => Y.move rfl) (by decide) ?_   -- t39 := move t3
        refine RH.take 1 (fun _ _ _ _ h => h) (by kernel_rfl) hS rfl (by kernel_rfl) (by kernel_rfl) (fun wq hq => Y.move rfl) (by decide) ?_   -- t40 := move t7
        refine RH.take 2 (fun _ _ _ _ h => h) (by kernel_rfl) hS rfl (by kernel_rfl) (by kernel_rfl) (fun wq hq => Y.subN (c := b2n (!y.two)) rfl rfl (b2n_not _) (by have := b2n_not y.two; have := b2n_lt (!y.two); omega)) (by decide) ?_   -- t41 := binOp sub 3 c(1:i64) t40 3
        refine RH.take 3 (fun _ _ _ _ h => h) (by kernel_rfl) hS rfl (by kernel_rfl) (by kernel_rfl) (fun wq hq => Y.move rfl) (by decide) ?_   -- t42 := move t4
        refine RH.take 4 (fun _ _ _ _ h => h) (by kernel_rfl) hS rfl (by kernel_rfl) (by kernel_rfl) (fun wq hq => Y.move rfl) (by decide) ?_   -- t43 := move t7
        refine RH.take 5 (fun _ _ _ _ h => h) (by kernel_rfl) hS rfl (by kernel_rfl) (by kernel_rfl) (fun wq hq => Y.subN (c := b2n (!y.two)) rfl rfl (b2n_not _) (by have := b2n_not y.two; have := b2n_lt (!y.two); omega)) (by decide) ?_   -- t44 := binOp sub 3 c(1:i64) t43 3
        refine RH.take 6 (fun _ _ _ _ h => h) (by kernel_rfl) hS rfl (by kernel_rfl) (by kernel_rfl) (fun wq hq => Y.move rfl) (by decide) ?_   -- t45 := move t3
        refine RH.take 7 (fun _ _ _ _ h => h) (by kernel_rfl) hS rfl (by kernel_rfl) (by kernel_rfl) (fun wq hq => Y.move rfl) (by decide) ?_   -- t46 := move t7
        refine RH.take 8 (fun _ _ _ _ h => h) (by kernel_rfl) hS rfl (by kernel_rfl) (by kernel_rfl) (fun wq hq => Y.indexAddrN Try.underlying80 rfl rfl sz0_fugueTree (b2n_lt _)) (by decide) ?_   -- t47 := indexAddr 80 t45 t46
        refine RH.take 9 (fun _ _ _ _ h => h) (by kernel_rfl) hS rfl (by kernel_rfl) (by kernel_rfl) (fun wq hq => Y.load1 Try.underlying27 rfl hq.2.1 rfl) (by decide) ?_   -- t48 := load 27 t47
        refine RH.take 11 (fun _ _ _ _ h => h) (by kernel_rfl) hS rfl (by kernel_rfl) (by kernel_rfl) (fun wq hq => Y.move rfl) (by decide) ?_   -- t50 := move t4
        refine RH.take 12 (fun _ _ _ _ h => h) (by kernel_rfl) hS rfl (by kernel_rfl) (by kernel_rfl) (fun wq hq => Y.move rfl) (by decide) ?_   -- t51 := move t7
        refine RH.take 13 (fun _ _ _ _ h => h) (by kernel_rfl) hS rfl (by kernel_rfl) (by kernel_rfl) (fun wq hq => Y.indexAddrN Try.underlying82 rfl rfl sz0_recensionref08Tree (b2n_lt _)) (by decide) ?_   -- t52 := indexAddr 82 t50 t51
        refine RH.take 14 (fun _ _ _ _ h => h) (by kernel_rfl) hS rfl (by kernel_rfl) (by kernel_rfl) (fun wq hq => Y.load1 Try.underlying28 rfl hq.2.2 rfl) (by decide) ?_   -- t53 := load 28 t52
        refine RH.one 10 (by kernel_rfl) ?_
        refine RS.call rfl (fun _ _ h => by cases h) Try.func29 rfl rfl rfl (fcopy_any _ _ _ _ _ _ hTw.ft (hP.goodF y.two) (hP.lenF y.two)) (by decide) fun v49 w13 hR13 => ?_   -- call F29(t48) : 27
        obtain ⟨g2, rb2, ra2, ns2, rfl, hF2, he2, hn2, hx13⟩ := hR13
        have hz13 := hx13.size
        have hP := hP.ext hx13
        have hS : Chg (fun q => q = bt ∨ q = br) w11 w13 ∧ World.cell? w13 (Addr.add ⟨bt, 0, none⟩ (b2n y.two * 1)) = some (pt (P y.two).g) ∧ World.cell? w13 (Addr.add ⟨br, 0, none⟩ (b2n y.two * 1)) = some (pt (P y.two).gr) := ⟨hS.1.thenExt hx13, hP.cellT y.two, hP.cellR y.two⟩
        have hTw := hP.two y.two
        refine ⟨hS, ?_⟩
        refine RH.one 15 (by kernel_rfl) ?_
        refine RS.call rfl (fun _ _ h => by cases h) Try.func32 rfl rfl rfl (rcopy_any _ _ _ _ _ _ hTw.rt (hP.lenR y.two) (hP.sideR y.two) (by have := hP.few y.two; omega)) (by decide) fun v54 w14 hR14 => ?_   -- call F32(t53) : 28
        obtain ⟨gr2, rs2, av2, ev2, rfl, hR2, hre2, hn3, hx14⟩ := hR14
        have hz14 := hx14.size
        have hP := hP.ext hx14
        have hS : Chg (fun q => q = bt ∨ q = br) w11 w14 ∧ World.cell? w14 (Addr.add ⟨bt, 0, none⟩ (b2n y.two * 1)) = some (pt (P y.two).g) ∧ World.cell? w14 (Addr.add ⟨br, 0, none⟩ (b2n y.two * 1)) = some (pt (P y.two).gr) := ⟨hS.1.thenExt hx14, hP.cellT y.two, hP.cellR y.two⟩
        have hTw := hP.two y.two
        have hl2 := fun q (hq : Fp g2 rb2 ra2 ns2 q) => hF2.lt hq
        have hF2 := hF2.ext hx14
        have hbb : bt ≠ br := by
          intro e
          have h1 := hP.bt_
          rw [e] at h1
          exact absurd (blk_kind h1 hP.br_) (by decide)
        refine ⟨hS, ?_⟩
        refine RH.take 16 (fun _ _ _ _ h => h) (by kernel_rfl) hS rfl (by kernel_rfl) (by kernel_rfl) (fun wq hq => Y.indexAddrN Try.underlying80 rfl rfl sz0_fugueTree (b2n_lt _)) (by decide) ?_   -- t55 := indexAddr 80 t39 t41
        refine RH.one 17 (by kernel_rfl) ?_
        refine RS.store rfl (g := bt) (pre := cond y.two [] [pt (P false).g]) (old := [pt (P (!y.two)).g]) (post := cond y.two [pt (P true).g] []) (new := [pt g2]) rfl (by cases y.two <;> rfl) rfl rfl (by kernel_rfl) (by have h9 := hP.bt_; cases y.two <;> exact h9) rfl (one1 rfl) (fun w15 hc15 hB15_ => ?_)   -- store 27 t55 t49
        have hS : Chg (fun q => q = bt ∨ q = br) w11 w15 ∧ World.cell? w15 (Addr.add ⟨bt, 0, none⟩ (b2n y.two * 1)) = some (pt (P y.two).g) ∧ World.cell? w15 (Addr.add ⟨br, 0, none⟩ (b2n y.two * 1)) = some (pt (P y.two).gr) := ⟨hS.1.trans hc15 (fun _ _ h => .inl h), cellP (fun p => p.g) y.two hB15_, by rw [cell2 (hP.br_.chg hc15 (fun h => hbb h.symm)) y.two]; cases y.two <;> rfl⟩
        refine ⟨hS, ?_⟩
        refine RH.take 18 (fun _ _ _ _ h => h) (by kernel_rfl) hS rfl (by kernel_rfl) (by kernel_rfl) (fun wq hq => Y.indexAddrN Try.underlying82 rfl rfl sz0_recensionref08Tree (b2n_lt _)) (by decide) ?_   -- t56 := indexAddr 82 t42 t44
        refine RH.one 19 (by kernel_rfl) ?_
        refine RS.store rfl (g := br) (pre := cond y.two [] [pt (P false).gr]) (old := [pt (P (!y.two)).gr]) (post := cond y.two [pt (P true).gr] []) (new := [pt gr2]) rfl (by cases y.two <;> rfl) rfl rfl (by kernel_rfl) (by have h9 := hP.br_.chg hc15 (fun h => hbb h.symm); cases y.two <;> exact h9) rfl (one1 rfl) (fun w16 hc16 hB16_ => ?_)   -- store 28 t56 t54
        have hS : Chg (fun q => q = bt ∨ q = br) w11 w16 ∧ World.cell? w16 (Addr.add ⟨bt, 0, none⟩ (b2n y.two * 1)) = some (pt (P y.two).g) ∧ World.cell? w16 (Addr.add ⟨br, 0, none⟩ (b2n y.two * 1)) = some (pt (P y.two).gr) := ⟨hS.1.trans hc16 (fun _ _ h => .inr h), cellP (fun p => p.g) y.two (hB15_.chg hc16 (fun h => hbb h)), cellP (fun p => p.gr) y.two hB16_⟩
        refine ⟨hS, ?_⟩
        refine RH.done (by kernel_rfl) ?_
        have hCC : Chg (fun q => q = bt ∨ q = br) w14 w16 := (hc15.mono (T := fun q => q = bt ∨ q = br) fun _ _ h => .inl h).trans hc16 (fun _ _ h => .inr h)
        have hE := hE.step hS.1 (fun q h => by omega)
        have hB6 := hB6.chg hS.1 (fun h => by omega)
        have hnF : ∀ q, Fp g2 rb2 ra2 ns2 q → q ≠ bt ∧ q ≠ br := fun q hq => by have := hn2 q hq; omega
        have hnR : ∀ q, Rp gr2 rs2 av2 ev2 q → q ≠ bt ∧ q ≠ br := fun q hq => by have := hn3 q hq; omega
        have hPn := hP12.put (!y.two) ⟨g2, rb2, ra2, ns2, gr2, rs2, av2, ev2, (P y.two).L, (P y.two).T⟩ (w' := w16) (Nat.le_refl k)
          ⟨hF2.chg hCC (fun q hq h => by have := hnF q hq; omega), he2.trans hTw.fe, hR2.chg hCC (fun q hq h => by have := hnR q hq; omega), hre2.trans hTw.re, hTw.ok, fun q h1 h2 => by have := hn3 q h1; have := hl2 q h2; omega⟩
          (by rw [Bool.not_not]; exact Two8.chg8 hTw hCC (fun q hq h => by have := hP.lo y.two q hq; omega))
          (fun q hq => .inr (by rcases hq with h | h; have := hn2 q h; omega; have := hn3 q h; omega)) (hP.few y.two)
          (by have h9 := hB15_.chg hc16 (fun h => hbb h); revert h9; cases y.two <;> exact fun h => h) (by have h9 := hB16_; revert h9; cases y.two <;> exact fun h => h)
        refine hK21 _ _ ?_; try clear hK21 K21
        refine CW.seq fun K22 hK22 => ?_
        refine CW.region ?_   -- region 13
        refine WL.val (Y.move rfl) (by decide) ?_   -- t57 := move t3
        refine WL.val (Y.move rfl) (by decide) ?_   -- t58 := move t7
        refine WL.val (Y.subN (c := b2n (!y.two)) rfl rfl (b2n_not _) (by have := b2n_not y.two; have := b2n_lt (!y.two); omega)) (by decide) ?_   -- t59 := binOp sub 3 c(1:i64) t58 3
        refine WL.val (Y.indexAddrN Try.underlying80 rfl rfl sz0_fugueTree (b2n_lt _)) (by decide) ?_   -- t60 := indexAddr 80 t57 t59
        refine WL.val (Y.load1 Try.underlying27 rfl (hPn.cellT (!y.two)) rfl) (by decide) ?_   -- t61 := load 27 t60
        refine WL.val (Y.eql_fugueTree rfl rfl) (by decide) ?_   -- t62 := binOp eql 27 t61 c(['Go.Value.pointer', 'none']) 27
        refine WL.nil ?_
        refine hK22 _ _ ?_; try clear hK22 K22
        first | refine CW.condD rfl (fun ht23 => ?_) (fun ht23 => ?_) | refine CW.condND rfl (fun ht23 => ?_) (fun ht23 => ?_) | refine CW.condN rfl (fun ht23 => ?_) (fun ht23 => ?_) | refine CW.cond rfl (fun ht23 => ?_) (fun ht23 => ?_)
        · -- then
          refine CW.seq fun K24 hK24 => ?_
          refine CW.region ?_   -- region 14
          refine WL.val (Y.assign rfl) (by decide) ?_   -- t2 := assign c(false)
          refine WL.nil ?_
          refine hK24 _ _ ?_; try clear hK24 K24
          refine CW.ret ⟨_, rfl, ?_⟩
          exact absurd ht23 (by simp)
        -- else
        refine CW.skip ?_
        exact ⟨_, (by repeat (first | exact Fr.le.nil | refine Fr.le.cons rfl ?_)), hPn, hE, hB6⟩
      -- else
      refine CW.skip ?_
      exact ⟨P, (by repeat (first | exact Fr.le.nil | refine Fr.le.cons rfl ?_)), hP, hE, hB6⟩
    rintro u w17 hj17
    obtain ⟨hP, hE, hB6⟩ := hj17
    refine CW.seq fun K25 hK25 => ?_
    refine CW.head 9 (by kernel_rfl) (by kernel_rfl) fun w18 hx18 => ?_   -- region 15
    skip; have hz18 := hx18.size; have hE := hE.thenExt hx18; have hB6 := hB6.ext hx18
    refine HL.val (Y.move rfl) (by decide) ?_   -- t63 := move t3
    refine HL.val (Y.move rfl) (by decide) ?_   -- t64 := move t7
    refine HL.val (Y.indexAddrN Try.underlying80 rfl rfl sz0_fugueTree (b2n_lt _)) (by decide) ?_   -- t65 := indexAddr 80 t63 t64
    refine HL.val (Y.load1 Try.underlying27 rfl ((hP.ext hx18).cellT y.two) rfl) (by decide) ?_   -- t66 := load 27 t65
    refine HL.val (Y.move rfl) (by decide) ?_   -- t67 := move t4
    refine HL.val (Y.move rfl) (by decide) ?_   -- t68 := move t7
    refine HL.val (Y.indexAddrN Try.underlying82 rfl rfl sz0_recensionref08Tree (b2n_lt _)) (by decide) ?_   -- t69 := indexAddr 82 t67 t68
    refine HL.val (Y.load1 Try.underlying28 rfl ((hP.ext hx18).cellR y.two) rfl) (by decide) ?_   -- t70 := load 28 t69
    refine HL.val (Y.load Try.underlying75 rfl hB6.mem (sz_recensionlaw08Act _) rfl) (by decide) ?_   -- t71 := load 75 t6
    refine HL.nil ?_
    refine WL.call Try.func28 rfl rfl rfl (does_any _ _ _ _ _ _ _ _ _ _ y _ ((hP.ext hx18).two y.two) (by have := hP.few y.two; omega) ((hl.ops y hym).ext hE) (hl.fit y hym) (fun h0 q hq => ⟨by have := (hl.ops y hym).own_lt opC_ne h0 q hq; have := hE.size; omega, fun h => by have := (hl.ops y hym).own_lt opC_ne h0 q hq; have := hP.lo y.two q (.inl h); omega, fun h => by have := (hl.ops y hym).own_lt opC_ne h0 q hq; have := hP.lo y.two q (.inr h); omega⟩)) (by simp) ?_; rintro v72 w19 hR19   -- t72 := call F28(t66, t70, t71) : 27,28,75
    obtain ⟨rfl, hD⟩ := hR19
    have hP := hP.ext hx18
    have hzw := hE.size
    obtain ⟨P3, hP3, hE3⟩ : ∃ P3, PlI w w19 bt br (k + 1) P3 ∧ Ext w w19 := by
      by_cases h0 : y.kind = 0
      · obtain ⟨ns', rs', av', ev', L', hT', hc, hf, hr⟩ := hD.2 h0
        refine ⟨_, hP.put y.two ⟨_, _, _, ns', _, rs', av', ev', L', _⟩ (by omega) hT' (Two8.chg8 (hP.two (!y.two)) hc (fun q hq h => ?_)) (fun q hq => ?_) (addT_few (hP.few y.two)) ?_ ?_, hE.step hc (fun q h => (hP.lo y.two q h).1)⟩
        · cases hs : y.two
          · rw [hs] at hq h; exact hP.dis q h hq
          · rw [hs] at hq h; exact hP.dis q hq h
        · rcases hq with h | h
          · rcases hf q h with h | h
            · exact .inl (.inl h)
            · exact .inr h
          · rcases hr q h with h | h
            · exact .inl (.inr h)
            · exact .inr h
        · have h9 := hP.bt_.chg hc (fun h => (hP.lo y.two _ h).2.1 rfl)
          cases hs : y.two <;> exact h9
        · have h9 := hP.br_.chg hc (fun h => (hP.lo y.two _ h).2.2 rfl)
          cases hs : y.two <;> exact h9
      · have hx := hD.1 h0
        have h9 := hP.ext hx
        exact ⟨u, ⟨h9.two, h9.dis, h9.lo, fun s => Nat.le_succ_of_le (h9.few s), h9.bt_, h9.br_⟩, hE.thenExt hx⟩
    refine WL.val (Y.not rfl) (by decide) ?_   -- t73 := unOp not 4 t72
    refine WL.nil ?_
    refine hK25 _ _ ?_; try clear hK25 K25
    first | refine CW.condD rfl (fun ht26 => ?_) (fun ht26 => ?_) | refine CW.condND rfl (fun ht26 => ?_) (fun ht26 => ?_) | refine CW.condN rfl (fun ht26 => ?_) (fun ht26 => ?_) | refine CW.cond rfl (fun ht26 => ?_) (fun ht26 => ?_)
    · -- then
      refine CW.seq fun K27 hK27 => ?_
      refine CW.region ?_   -- region 16
      refine WL.val (Y.assign rfl) (by decide) ?_   -- t2 := assign c(false)
      refine WL.nil ?_
      refine hK27 _ _ ?_; try clear hK27 K27
      refine CW.ret ⟨_, rfl, ?_⟩
      exact absurd ht26 (by simp)
    -- else
    refine CW.skip ?_
    refine hK12 _ _ ?_; try clear hK12 K12
    refine CW.region ?_   -- region 17
    refine WL.val (Y.add rfl rfl ⟨by omega, by omega⟩) (by decide) ?_   -- t74 := binOp add 3 t30 c(1:i64) 3
    refine WL.val (Y.move rfl) (by decide) ?_   -- t30 := move t74
    refine WL.nil ?_
    exact ⟨(k + 1, P3), (by show m - (k + 1) < m - k; omega), (by repeat (first | exact Fr.le.nil | refine Fr.le.cons rfl ?_)), (by show k + 1 ≤ m; omega), hP3, hE3⟩
  -- else
  refine CW.exit ?_   -- exit 0
  refine hK7 _ _ ?_; try clear hK7 K7
  refine CW.seq fun K28 hK28 => ?_
  refine CW.quiet (fun wq => Ext w9 wq) (by kernel_rfl) (by kernel_rfl) Chg.drew ?_
  refine QL.val (fun wq hq => Y.move rfl) (by decide) ?_   -- t75 := move t3
  refine QL.val (fun wq hq => Y.indexAddrN (i := 0) Try.underlying80 rfl rfl sz0_fugueTree (by decide)) (by decide) ?_   -- t76 := indexAddr 80 t75 c(0:i64)
  refine QL.val (fun wq hq => Y.load1 Try.underlying27 rfl ((hP.ext hq).cellT false) rfl) (by decide) ?_   -- t77 := load 27 t76
  refine QL.call Try.func15 rfl rfl rfl (fun wq hq => ret_ext ((hP.ext hq).textF false) hq) (by simp) ?_   -- t78 := call F15(t77) : 27
  refine QL.val (fun wq hq => Y.move rfl) (by decide) ?_   -- t79 := move t4
  refine QL.val (fun wq hq => Y.indexAddrN (i := 0) Try.underlying82 rfl rfl sz0_recensionref08Tree (by decide)) (by decide) ?_   -- t80 := indexAddr 82 t79 c(0:i64)
  refine QL.val (fun wq hq => Y.load1 Try.underlying28 rfl ((hP.ext hq).cellR false) rfl) (by decide) ?_   -- t81 := load 28 t80
  refine QL.call Try.func19 rfl rfl rfl (fun wq hq => ret_ext ((hP.ext hq).textR false) hq) (by simp) ?_   -- t82 := call F19(t81) : 28
  refine QL.val (fun wq hq => Y.eql_string rfl rfl) (by decide) ?_   -- t83 := binOp eql 9 t78 t82 9
  refine QL.val (fun wq hq => Y.move rfl) (by decide) ?_   -- t84 := move t83
  first | refine QL.casesD (d := 84) rfl (fun hg84 => ?_) (fun hg84 => ?_) | refine QL.casesND (d := 84) rfl (fun hg84 => ?_) (fun hg84 => ?_) | refine QL.cases (d := 84) rfl (fun hg84 => ?_) (fun hg84 => ?_)
  · -- t84 = T
    refine QL.gval rfl rfl (fun wq hq => Y.move rfl) (by decide) ?_   -- t85 := move t3 [if 9=true]
    refine QL.gval rfl rfl (fun wq hq => Y.indexAddrN (i := 1) Try.underlying80 rfl rfl sz0_fugueTree (by decide)) (by decide) ?_   -- t86 := indexAddr 80 t85 c(1:i64) [if 9=true]
    refine QL.gval rfl rfl (fun wq hq => Y.load1 Try.underlying27 rfl ((hP.ext hq).cellT true) rfl) (by decide) ?_   -- t87 := load 27 t86 [if 9=true]
    refine QL.gcall rfl rfl Try.func15 rfl rfl rfl (fun wq hq => ret_ext ((hP.ext hq).textF true) hq) (by decide) ?_   -- t88 := call F15(t87) : 27 [if 9=true]
    refine QL.gval rfl rfl (fun wq hq => Y.move rfl) (by decide) ?_   -- t89 := move t4 [if 9=true]
    refine QL.gval rfl rfl (fun wq hq => Y.indexAddrN (i := 1) Try.underlying82 rfl rfl sz0_recensionref08Tree (by decide)) (by decide) ?_   -- t90 := indexAddr 82 t89 c(1:i64) [if 9=true]
    refine QL.gval rfl rfl (fun wq hq => Y.load1 Try.underlying28 rfl ((hP.ext hq).cellR true) rfl) (by decide) ?_   -- t91 := load 28 t90 [if 9=true]
    refine QL.gcall rfl rfl Try.func19 rfl rfl rfl (fun wq hq => ret_ext ((hP.ext hq).textR true) hq) (by decide) ?_   -- t92 := call F19(t91) : 28 [if 9=true]
    refine QL.gval rfl rfl (fun wq hq => Y.eql_string rfl rfl) (by decide) ?_   -- t93 := binOp eql 9 t88 t92 9 [if 9=true]
    refine QL.val (fun wq hq => Y.pick rfl rfl) (by decide) ?_   -- t94 := pick t84 t93 c(false)
    refine QL.val (fun wq hq => Y.assign rfl) (by decide) ?_   -- t2 := assign t94
    refine QL.nil fun w20 hx20 => ?_
    have hz20 := hx20.size
    have hE := hE.thenExt hx20
    refine hK28 _ _ ?_; try clear hK28 K28
    refine CW.ret ⟨_, rfl, ?_⟩
    exact ⟨by simp, hE⟩
  · -- t84 = F
    refine QL.goff rfl rfl (by decide) ?_   -- t85 := move t3 [if 9=true]
    refine QL.goff rfl rfl (by decide) ?_   -- t86 := indexAddr 80 t85 c(1:i64) [if 9=true]
    refine QL.goff rfl rfl (by decide) ?_   -- t87 := load 27 t86 [if 9=true]
    refine QL.goff rfl rfl (by decide) ?_   -- t88 := call F15(t87) : 27 [if 9=true]
    refine QL.goff rfl rfl (by decide) ?_   -- t89 := move t4 [if 9=true]
    refine QL.goff rfl rfl (by decide) ?_   -- t90 := indexAddr 82 t89 c(1:i64) [if 9=true]
    refine QL.goff rfl rfl (by decide) ?_   -- t91 := load 28 t90 [if 9=true]
    refine QL.goff rfl rfl (by decide) ?_   -- t92 := call F19(t91) : 28 [if 9=true]
    refine QL.goff rfl rfl (by decide) ?_   -- t93 := binOp eql 9 t88 t92 9 [if 9=true]
    refine QL.val (fun wq hq => Y.pick rfl rfl) (by decide) ?_   -- t94 := pick t84 t93 c(false)
    refine QL.val (fun wq hq => Y.assign rfl) (by decide) ?_   -- t2 := assign t94
    refine QL.nil fun w21 hx21 => ?_
    have hz21 := hx21.size
    have hE := hE.thenExt hx21
    refine hK28 _ _ ?_; try clear hK28 K28
    refine CW.ret ⟨_, rfl, ?_⟩
    exact absurd hg84 (by simp)
end Go.Proofs.Ytffkmlkdlhkkmaa
