/- Parts of a proof: what its last text leans on. No condition. -/
import Derived.Test.YtjbeooimhoilmaaDoorK10
import Derived.Test.YtjbeooimhoilmaaDoorK11
set_option linter.unusedSimpArgs false
set_option linter.unusedVariables false
/- Several texts as one: Gd, Ge, Gf, Gg, Gh. -/
/- Marks over a graph, as both sides make them; what a look at a graph is in memory. No condition. -/
namespace Go.Pl
open Go.Fw
def ixN (l : List Nd) (d : Dig) : Nat := (idsL l).idxOf d
def setAll (l : List Nd) (S : List Bool) (ds : List Dig) : List Bool := ds.foldl (fun S d => S.set (ixN l d) true) S
def mark0 (l : List Nd) (ids : List Dig) : List Bool := setAll l (List.replicate l.length false) ids
def upd (l : List Nd) (S : List Bool) (i : Nat) : List Bool := match l[i]? with
  | some n => if S[i]? = some true then setAll l S n.ps else S
  | none => S
def markD (l : List Nd) : Nat → List Bool → List Bool
  | 0, S => S
  | i + 1, S => markD l i (upd l S i)
def markF (l : List Nd) (ids : List Dig) : List Bool := markD l l.length (mark0 l ids)
def reachD (l : List Nd) : Nat → List Bool → List Nat
  | 0, _ => []
  | i + 1, S => if S[i]? = some true then i :: reachD l i (upd l S i) else reachD l i S
def reachL (l : List Nd) (ids : List Dig) : List Nat := reachD l l.length (mark0 l ids)
theorem setAll_length {l : List Nd} : ∀ {ds : List Dig} {S : List Bool}, (setAll l S ds).length = S.length
  | [], _ => rfl
  | d :: ds, S => by
    have := setAll_length (l := l) (ds := ds) (S := S.set (ixN l d) true)
    rw [List.length_set] at this
    exact this
theorem setAll_app {l : List Nd} {S : List Bool} {ds : List Dig} {d : Dig} : setAll l S (ds ++ [d]) = (setAll l S ds).set (ixN l d) true := by simp [setAll, List.foldl_append]
theorem mark0_length {l : List Nd} {ids : List Dig} : (mark0 l ids).length = l.length := by rw [mark0, setAll_length, List.length_replicate]
theorem upd_length {l : List Nd} {S : List Bool} {i : Nat} : (upd l S i).length = S.length := by
  unfold upd
  split
  · split
    · exact setAll_length
    · rfl
  · rfl
theorem upd_no {l : List Nd} {S : List Bool} {i : Nat} (h : S[i]? ≠ some true) : upd l S i = S := by
  unfold upd
  split
  · rw [if_neg h]
  · rfl
theorem upd_yes {l : List Nd} {S : List Bool} {i : Nat} {n : Nd} (hn : l[i]? = some n) (h : S[i]? = some true) : upd l S i = setAll l S n.ps := by
  unfold upd
  rw [hn]
  simp only
  rw [if_pos h]
theorem fwrong_nil : ∀ {l : List Nd} {a : List Dig} {i : Nat}, (fwrong l a i).2 = 0 → ∀ (j : Nat) (n : Nd), l[j]? = some n → wrongE (a ++ idsL (l.take j)) n = 0
  | [], _, _, _, j, n, h => by simp at h
  | x :: r, a, i, h, j, n, hn => by
    rw [fwrong] at h
    split at h
    · rename_i hx
      cases j with
      | zero => simp at hn; subst hn; simpa using hx
      | succ j =>
        have := fwrong_nil (l := r) h j n (by simpa using hn)
        simpa [idsL] using this
    · rename_i hx; exact absurd h hx
theorem ok_len {l : List Nd} (h : (readE l).2 = 0) : l.length ≤ 200 := by
  unfold readE at h
  split at h
  · simp at h
  · omega
theorem ok_at {l : List Nd} (h : (readE l).2 = 0) {i : Nat} {n : Nd} (hi : l[i]? = some n) : wrongE (idsL (l.take i)) n = 0 := by
  have hl := ok_len h
  rw [readE, if_neg (by omega)] at h
  simpa using fwrong_nil h i n hi
theorem ok_par {l : List Nd} (h : (readE l).2 = 0) {i : Nat} {n : Nd} (hi : l[i]? = some n) {p : Dig} (hp : p ∈ n.ps) : p ∈ idsL (l.take i) := (wrong_ok (ok_at h hi)).2.2.2 p hp
theorem mem_idsTake {l : List Nd} {i : Nat} {p : Dig} (h : p ∈ idsL (l.take i)) : p ∈ idsL l := by
  obtain ⟨n, hn, he⟩ := List.mem_map.1 h
  exact List.mem_map.2 ⟨n, List.mem_of_mem_take hn, he⟩
theorem ixN_lt {l : List Nd} {d : Dig} (h : d ∈ idsL l) : ixN l d < l.length := by
  have := List.idxOf_lt_length_iff.2 h
  simpa [ixN] using this
theorem reachD_le {l : List Nd} : ∀ {k : Nat} {S : List Bool}, (reachD l k S).length ≤ k
  | 0, _ => Nat.le_refl _
  | k + 1, S => by
    rw [reachD]
    split
    · have := reachD_le (l := l) (k := k) (S := upd l S k); simp only [List.length_cons]; omega
    · have := reachD_le (l := l) (k := k) (S := S); omega
theorem reachD_lt {l : List Nd} : ∀ {k : Nat} {S : List Bool} {x : Nat}, x ∈ reachD l k S → x < k
  | 0, _, _, h => by cases h
  | k + 1, S, x, h => by
    rw [reachD] at h
    split at h
    · rcases List.mem_cons.1 h with h | h
      · omega
      · have := reachD_lt h; omega
    · have := reachD_lt h; omega
def setI (S : List Bool) (is : List Nat) : List Bool := is.foldl (fun S i => S.set i true) S
theorem setI_length : ∀ {is : List Nat} {S : List Bool}, (setI S is).length = S.length
  | [], _ => rfl
  | i :: is, S => by
    have := setI_length (is := is) (S := S.set i true)
    rw [List.length_set] at this
    exact this
theorem setI_app {S : List Bool} {is : List Nat} {i : Nat} : setI S (is ++ [i]) = (setI S is).set i true := by simp [setI, List.foldl_append]
def markS (l : List Nd) (ids : List Dig) : List Bool := setI (List.replicate l.length false) (reachL l ids)
theorem placed_ix {l : List Nd} {d : Dig} (h : d ∈ idsL l) : ∃ j, mfind Prod.fst d (placed (idsL l)) 0 = some (j, (d, ixN l d)) := by
  cases hf : mfind Prod.fst d (placed (idsL l)) 0 with
  | none =>
    have := placed_isSome (d := d) (ids := idsL l) (k := 0) (i := 0)
    rw [show (idsL l).zipIdx 0 = placed (idsL l) from rfl, hf] at this
    simp [h] at this
  | some p =>
    obtain ⟨j, e⟩ := p
    obtain ⟨h1, h2, h3, h4⟩ := placed_some (k := 0) hf
    refine ⟨j, ?_⟩
    simp only [Nat.sub_zero] at h2 h4
    have h5 := findI_at (i := e.2) h2 h4
    rw [findI, if_pos h] at h5
    have h6 : ixN l d = e.2 := by unfold ixN; omega
    rw [← h1, h1, h6]
    have : e = (d, e.2) := by rw [← h1]
    rw [this]
end Go.Pl
namespace Go.Fw
section
variable {w : World} {a : Addr} {v0 v1 v2 : Value}
theorem Mem.graphlook0 (h : Mem w a [v0, v1, v2]) : w.cell? (a.add 0) = some v0 := h.cell 0 rfl
theorem Mem.graphlook1 (h : Mem w a [v0, v1, v2]) : w.cell? (a.add 1) = some v1 := h.cell 1 rfl
theorem Mem.graphlook2 (h : Mem w a [v0, v1, v2]) : w.cell? (a.add 2) = some v2 := h.cell 2 rfl
end
end Go.Fw
namespace Go.Proofs.YtjbeooimhoilmaaDoor
open Go.RowKit Go.Fw Go.Pl
abbrev TLk : TypeId := 94
abbrev TBo : TypeId := 4
structure LookAt (w0 w : World) (gk r sb : Nat) (u : Value) (l : List NdV) (S : List Bool) : Prop where
  nds : Nds w0 u l
  old : Ext w0 w
  new : w0.heap.size ≤ gk ∧ w0.heap.size ≤ r ∧ w0.heap.size ≤ sb
  ne : gk ≠ r ∧ gk ≠ sb ∧ r ≠ sb
  blk : Blk w gk TLk [u, .map (some r), .slice (some ⟨sb, 0, none⟩) l.length l.length]
  map : MapAt w r pme (placed (idsL (ndsL l))) l.length
  seen : Blk w sb TBo (boolC S)
  len : S.length = l.length
  ok : (readE (ndsL l)).2 = 0
section
variable {w0 w w' : World} {gk r sb : Nat} {u : Value} {l : List NdV} {S S' : List Bool} {T : Nat → Prop}
theorem LookAt.lt (h : LookAt w0 w gk r sb u l S) : gk < w.heap.size ∧ r < w.heap.size ∧ sb < w.heap.size := ⟨h.blk.lt, h.map.lt, h.seen.lt⟩
theorem LookAt.chg (h : LookAt w0 w gk r sb u l S) (hc : Chg T w w') (h1 : ¬ T gk) (h2 : ¬ T r) (h3 : ¬ T sb) (h4 : ∀ k, T k → w0.heap.size ≤ k) : LookAt w0 w' gk r sb u l S :=
  ⟨h.nds, h.old.step hc h4, h.new, h.ne, h.blk.chg hc h1, h.map.chg hc h2, h.seen.chg hc h3, h.len, h.ok⟩
theorem LookAt.ext (h : LookAt w0 w gk r sb u l S) (hc : Ext w w') : LookAt w0 w' gk r sb u l S := h.chg hc (fun f => f) (fun f => f) (fun f => f) (fun _ f => f.elim)
theorem LookAt.see (h : LookAt w0 w gk r sb u l S) (hc : Chg (· = sb) w w') (hB : Blk w' sb TBo (boolC S')) (hl : S'.length = l.length) : LookAt w0 w' gk r sb u l S' :=
  ⟨h.nds, h.old.step hc (fun k hk => by rw [hk]; exact h.new.2.2), h.new, h.ne, h.blk.chg hc h.ne.2.1, h.map.chg hc h.ne.2.2, hB, hl, h.ok⟩
end
end Go.Proofs.YtjbeooimhoilmaaDoor
/- A look at a graph begun, gone over, marked: begin, reach and its closure, marks, walked. No condition. -/
namespace Go.Proofs.YtjbeooimhoilmaaDoor
open Go.RowKit Go.Fw Go.Pl
theorem info_boolT : ∃ i : TypeInfo, Tryd.prog.info? TBo = some i ∧ i.zero = some (.bool false) ∧ i.size = 1 ∧ i.bytes = 1 := by
  have h : (Tryd.prog.info? TBo).map (fun i => (i.zero, i.size, i.bytes)) = some (some (.bool false), 1, 1) := by kernel_rfl
  cases hi : Tryd.prog.info? TBo with
  | none => simp [hi] at h
  | some i => simp [hi] at h; exact ⟨i, rfl, h.1, h.2.1, h.2.2⟩
theorem zero_bool (w : World) : (zeroValue TBo).run Tryd.prog w = .ok (.bool false) w := by
  obtain ⟨i, hi, hz, _⟩ := info_boolT
  simp [zeroValue, typeInfo, hi, hz]
abbrev sz0_bool := @sz_bool
theorem sz0_sDigest : (Tryd.prog.info? 25).map (·.size) = some 1 := by kernel_rfl
abbrev sz0_sapiDigest := @sz0_sDigest
theorem fo_graphlook0 : FieldOff Tryd.prog TLk 0 0 := ⟨_, _, 1, Tryd.underlying94, rfl, by kernel_rfl, by decide, rfl⟩
theorem fo_graphlook1 : FieldOff Tryd.prog TLk 1 1 := ⟨_, _, 1, Tryd.underlying94, rfl, by kernel_rfl, by decide, rfl⟩
theorem fo_graphlook2 : FieldOff Tryd.prog TLk 2 2 := ⟨_, _, 1, Tryd.underlying94, rfl, by kernel_rfl, by decide, rfl⟩
theorem build_look (A : Option Addr) (n c r sb : Nat) (w : World) : (Instr.build TLk [(0, .slice A n c), (1, .map (some r)), (2, .slice (some ⟨sb, 0, none⟩) n n)].toArray).run Tryd.prog w = .ok (.agg #[.slice A n c, .map (some r), .slice (some ⟨sb, 0, none⟩) n n]) w := run_build w _ _ _ (by kernel_rfl)
theorem gbegin_any (u v0 : Value) (l : List NdV) (ds : List (Value × List Dig)) (w : World) (hl : Nds w u l) (hd : Sl w (fun x : Value × List Dig => [x.1]) 1 v0 ds) (hdd : ∀ x ∈ ds, Sl w digC 32 x.1 x.2) : Calls Tryd.prog 33 #[u, v0] w (Ret fun v w' => ∃ p, v = .tuple #[.pointer p, .int .i64 (wrongQ (ndsL l) (ds.map Prod.snd).flatten)] ∧ Ext w w' ∧ (wrongQ (ndsL l) (ds.map Prod.snd).flatten = 0 → ∃ gk r sb, p = some ⟨gk, 0, none⟩ ∧ LookAt w w' gk r sb u l (List.replicate l.length false))) := by
  have hl0 := hl
  obtain ⟨A, c, rfl, hmc, hcm⟩ := hl.sl.lens
  obtain ⟨A1, m1, c1, rfl, hdm, hdc, hdx, hdg⟩ := hd
  unfold maxLen at hcm hdx
  obtain ⟨bi, hbi, hbz, hbs, hbb⟩ := info_boolT
  refine calls_of_CW 53 [4, 5] [(0, .slice A l.length c), (1, .slice A1 m1 c1)] Tryd.func33 rfl rfl rfl (by simp) args2 ?_
  have hE : Ext w w := Chg.refl
  refine CW.seq fun K1 hK1 => ?_
  refine CW.region ?_
  refine WL.val (Y.assign rfl) (by decide) ?_
  refine WL.val (Y.assign rfl) (by decide) ?_
  refine WL.nil ?_
  refine hK1 _ _ ?_; try clear hK1 K1
  refine CW.seq fun K2 hK2 => ?_
  refine CW.region ?_
  refine WL.val (Y.move rfl) (by decide) ?_
  refine WL.call Tryd.func46 rfl rfl rfl (gread_any _ l _ hl0) (by simp) ?_; rintro v17 w1 hR1
  obtain ⟨mv, rfl, hmv, hx1⟩ := hR1
  have hz1 := hx1.size
  have hE := hE.thenExt hx1
  refine WL.val (Y.move rfl) (by decide) ?_
  refine WL.val (Y.extract rfl rfl) (by decide) ?_
  refine WL.val (Y.extract rfl rfl) (by decide) ?_
  refine WL.val (Y.extract rfl rfl) (by decide) ?_
  refine WL.val (Y.assign rfl) (by decide) ?_
  refine WL.val (Y.assign rfl) (by decide) ?_
  refine WL.val (Y.assign rfl) (by decide) ?_
  refine WL.nil ?_
  refine hK2 _ _ ?_; try clear hK2 K2
  refine CW.seq fun K3 hK3 => ?_
  refine CW.seq fun K4 hK4 => ?_
  refine CW.region ?_
  refine WL.val (Y.move rfl) (by decide) ?_
  refine WL.val (Y.neq rfl rfl) (by decide) ?_
  refine WL.nil ?_
  refine hK4 _ _ ?_; try clear hK4 K4
  first | refine CW.condD rfl (fun ht5 => ?_) (fun ht5 => ?_) | refine CW.condND rfl (fun ht5 => ?_) (fun ht5 => ?_) | refine CW.condN rfl (fun ht5 => ?_) (fun ht5 => ?_) | refine CW.cond rfl (fun ht5 => ?_) (fun ht5 => ?_)
  · -- then
    refine CW.seq fun K6 hK6 => ?_
    refine CW.region ?_
    refine WL.val (Y.move rfl) (by decide) ?_
    refine WL.val (Y.assign rfl) (by decide) ?_
    refine WL.val (Y.assign rfl) (by decide) ?_
    refine WL.nil ?_
    refine hK6 _ _ ?_; try clear hK6 K6
    refine CW.ret ⟨_, rfl, ?_⟩
    have he : wrongQ (ndsL l) (ds.map Prod.snd).flatten = (readE (ndsL l)).2 := by rw [wrongQ, if_pos (by assumption)]
    exact ⟨_, by rw [he]; rfl, hE, fun h => by rw [he] at h; exact absurd h (by assumption)⟩
  refine CW.skip ?_
  refine hK3 _ _ ?_; try clear hK3 K3
  refine CW.seq fun K7 hK7 => ?_
  refine CW.seq fun K8 hK8 => ?_
  have hok : (readE (ndsL l)).2 = 0 := Decidable.not_not.1 (by assumption)
  obtain ⟨r, rfl, hr, hM⟩ := hmv hok
  have hln := ok_len hok
  rw [List.length_map] at hln
  refine CW.region ?_
  refine WL.val (Y.move rfl) (by decide) ?_
  refine WL.val (Y.len_slice Tryd.underlying106 rfl) (by decide) ?_
  refine WL.val (Y.move rfl) (by decide) ?_
  refine WL.nil ?_
  refine hK8 _ _ ?_; try clear hK8 K8
  refine CW.block ?_
  refine CW.loop (X := Nat) (fun x => [(0, .slice A l.length c), (6, .map (some r)), (24, .slice A1 m1 c1), (25, .int .i64 (m1 : Int)), (26, .int .i64 (x : Int))]) (fun x w0 => x ≤ m1 ∧ (∀ i y d, i < x → ds[i]? = some y → d ∈ y.2 → d ∈ idsL (ndsL l)) ∧ Ext w w0 ∧ MapAt w0 r pme (placed (idsL (ndsL l))) l.length) (fun x => m1 - x) 0 (by repeat (first | exact Fr.le.nil | refine Fr.le.cons rfl ?_)) ⟨Nat.zero_le _, (fun i y d h => by omega), hE, hM⟩ ?_
  intro x w2 hl2
  obtain ⟨i, rfl⟩ : ∃ i, i = x := ⟨x, rfl⟩
  obtain ⟨hxm, hin, hE, hM⟩ := hl2
  refine CW.seq fun K9 hK9 => ?_
  refine CW.region ?_
  refine WL.val (Y.lss rfl rfl) (by decide) ?_
  refine WL.nil ?_
  refine hK9 _ _ ?_; try clear hK9 K9
  refine CW.seq fun K10 hK10 => ?_
  first | refine CW.condD rfl (fun ht11 => ?_) (fun ht11 => ?_) | refine CW.condND rfl (fun ht11 => ?_) (fun ht11 => ?_) | refine CW.condN rfl (fun ht11 => ?_) (fun ht11 => ?_) | refine CW.cond rfl (fun ht11 => ?_) (fun ht11 => ?_)
  · -- then
    refine CW.skip ?_
    refine hK10 _ _ ?_; try clear hK10 K10
    refine CW.seq fun K12 hK12 => ?_
    refine CW.block ?_
    refine CW.seq fun K13 hK13 => ?_
    obtain ⟨⟨dv, dl⟩, hy⟩ : ∃ y, ds[i]? = some y := ⟨_, List.getElem?_eq_getElem (by omega)⟩
    obtain ⟨a, rfl, hma⟩ := hdg _ _ hy
    have hdl := hdd _ (List.mem_of_getElem? hy)
    dsimp only at hdl hma
    obtain ⟨A2, c2, rfl, hdl2, hdl3⟩ := hdl.lens
    unfold maxLen at hdl3
    refine CW.region ?_
    refine WL.val (Y.indexAddrN Tryd.underlying106 rfl rfl sz0_sapiDigest (by omega)) (by decide) ?_
    refine WL.val (Y.load1 Tryd.underlying25 rfl ((hma.ext hE).cell0) rfl) (by decide) ?_
    refine WL.val (Y.assign rfl) (by decide) ?_
    refine WL.nil ?_
    refine hK13 _ _ ?_; try clear hK13 K13
    refine CW.seq fun K14 hK14 => ?_
    refine CW.region ?_
    refine WL.val (Y.move rfl) (by decide) ?_
    refine WL.val (Y.len_slice Tryd.underlying25 rfl) (by decide) ?_
    refine WL.val (Y.move rfl) (by decide) ?_
    refine WL.nil ?_
    refine hK14 _ _ ?_; try clear hK14 K14
    refine CW.block ?_
    refine CW.loop (X := Nat) (fun x => [(0, .slice A l.length c), (6, .map (some r)), (24, .slice (some a) m1 c1), (25, .int .i64 (m1 : Int)), (26, .int .i64 (i : Int)), (30, .slice A2 dl.length c2), (31, .int .i64 (dl.length : Int)), (32, .int .i64 (x : Int))]) (fun x w0 => x ≤ dl.length ∧ (∀ j d, j < x → dl[j]? = some d → d ∈ idsL (ndsL l)) ∧ Ext w w0 ∧ MapAt w0 r pme (placed (idsL (ndsL l))) l.length) (fun x => dl.length - x) 0 (by repeat (first | exact Fr.le.nil | refine Fr.le.cons rfl ?_)) ⟨Nat.zero_le _, (fun j d h => by omega), hE, hM⟩ ?_
    intro x w3 hl3
    obtain ⟨hzm, hin2, hE, hM⟩ := hl3
    refine CW.seq fun K15 hK15 => ?_
    refine CW.region ?_
    refine WL.val (Y.lss rfl rfl) (by decide) ?_
    refine WL.nil ?_
    refine hK15 _ _ ?_; try clear hK15 K15
    refine CW.seq fun K16 hK16 => ?_
    first | refine CW.condD rfl (fun ht17 => ?_) (fun ht17 => ?_) | refine CW.condND rfl (fun ht17 => ?_) (fun ht17 => ?_) | refine CW.condN rfl (fun ht17 => ?_) (fun ht17 => ?_) | refine CW.cond rfl (fun ht17 => ?_) (fun ht17 => ?_)
    · -- then
      refine CW.skip ?_
      refine hK16 _ _ ?_; try clear hK16 K16
      refine CW.seq fun K18 hK18 => ?_
      refine CW.block ?_
      refine CW.seq fun K19 hK19 => ?_
      obtain ⟨d, hd⟩ : ∃ d, dl[x]? = some d := ⟨_, List.getElem?_eq_getElem (by omega)⟩
      obtain ⟨b, rfl, hmb⟩ := hdl.at hd
      refine CW.region ?_
      refine WL.val (Y.indexAddrN Tryd.underlying25 rfl rfl sz0_apiDigest (by omega)) (by decide) ?_
      refine WL.val (Y.load Tryd.underlying48 rfl (hmb.ext hE) (sz_apiDigest _) rfl) (by decide) ?_
      refine as_apiDigest rfl (by simp) (by decide) fun g12 w4 hx4 hg12 hB12 => ?_
      have hlt12 := hB12.lt; have hz4 := hx4.size
      have hM12 := hB12.mem; have hz4 := hx4.size; have hE := hE.thenExt hx4
      refine WL.nil ?_
      refine hK19 _ _ ?_; try clear hK19 K19
      refine CW.seq fun K20 hK20 => ?_
      refine CW.region ?_
      refine WL.val (Y.move rfl) (by decide) ?_
      refine WL.val (Y.load Tryd.underlying48 rfl hB12.mem (sz_apiDigest _) rfl) (by decide) ?_
      refine WL.val (Y.lookupOk keyDig (fun _ => rfl) Tryd.underlying66 zero_int rfl rfl (hM.ext hx4)) (by decide) ?_
      refine WL.val (Y.move rfl) (by decide) ?_
      refine WL.val (Y.extract rfl rfl) (by decide) ?_
      refine WL.val (Y.extract rfl rfl) (by decide) ?_
      refine WL.val (Y.assign rfl) (by decide) ?_
      refine WL.val (Y.assign rfl) (by decide) ?_
      refine WL.nil ?_
      refine hK20 _ _ ?_; try clear hK20 K20
      refine CW.seq fun K21 hK21 => ?_
      refine CW.region ?_
      refine WL.val (Y.move rfl) (by decide) ?_
      refine WL.val (Y.not rfl) (by decide) ?_
      refine WL.nil ?_
      refine hK21 _ _ ?_; try clear hK21 K21
      first | refine CW.condD rfl (fun ht22 => ?_) (fun ht22 => ?_) | refine CW.condND rfl (fun ht22 => ?_) (fun ht22 => ?_) | refine CW.condN rfl (fun ht22 => ?_) (fun ht22 => ?_) | refine CW.cond rfl (fun ht22 => ?_) (fun ht22 => ?_)
      · -- then
        refine CW.seq fun K23 hK23 => ?_
        refine CW.region ?_
        refine WL.val (Y.assign rfl) (by decide) ?_
        refine WL.val (Y.assign rfl) (by decide) ?_
        refine WL.nil ?_
        refine hK23 _ _ ?_; try clear hK23 K23
        refine CW.ret ⟨_, rfl, ?_⟩
        have hnd : ¬ d ∈ idsL (ndsL l) := fun h => by
          have h9 := ht22
          rw [placed_isSome] at h9
          simp_all
        have he : wrongQ (ndsL l) (ds.map Prod.snd).flatten = 5 := by
          rw [wrongQ, if_neg (by rw [hok]; decide), if_pos ⟨d, List.mem_flatten.2 ⟨dl, List.mem_map.2 ⟨_, List.mem_of_getElem? hy, rfl⟩, List.mem_of_getElem? hd⟩, hnd⟩]
        exact ⟨_, by rw [he], hE, fun h => by rw [he] at h; simp at h⟩
      refine CW.skip ?_
      refine hK18 _ _ ?_; try clear hK18 K18
      refine CW.region ?_
      refine WL.val (Y.add rfl rfl ⟨by omega, by omega⟩) (by decide) ?_
      refine WL.val (Y.move rfl) (by decide) ?_
      refine WL.nil ?_
      refine ⟨x + 1, by show dl.length - (x + 1) < dl.length - x; omega, (by repeat (first | exact Fr.le.nil | refine Fr.le.cons rfl ?_)), by show x + 1 ≤ dl.length; omega, ?_, hE, hM.ext hx4⟩
      intro j d2 hj h1
      by_cases e : j < x
      · exact hin2 j d2 e h1
      · have e2 : j = x := by omega
        subst e2
        rw [hd] at h1; cases h1
        have h9 := ht22
        rw [placed_isSome] at h9
        simpa using h9
    refine CW.exit ?_
    refine hK12 _ _ ?_; try clear hK12 K12
    refine CW.region ?_
    refine WL.val (Y.add rfl rfl ⟨by omega, by omega⟩) (by decide) ?_
    refine WL.val (Y.move rfl) (by decide) ?_
    refine WL.nil ?_
    refine ⟨i + 1, by show m1 - (i + 1) < m1 - i; omega, (by repeat (first | exact Fr.le.nil | refine Fr.le.cons rfl ?_)), by show i + 1 ≤ m1; omega, ?_, hE, hM⟩
    intro j y2 d2 hj hy2 hd2
    by_cases e : j < i
    · exact hin j y2 d2 e hy2 hd2
    · have e2 : j = i := by omega
      subst e2
      rw [hy] at hy2; cases hy2
      obtain ⟨k, hk⟩ := List.mem_iff_getElem?.1 hd2
      have hk : dl[k]? = some d2 := hk
      exact hin2 k d2 (by have := (List.getElem?_eq_some_iff.1 hk).1; omega) hk
  refine CW.exit ?_
  refine hK7 _ _ ?_; try clear hK7 K7
  refine CW.seq fun K24 hK24 => ?_
  refine CW.region ?_
  refine WL.val (Y.move rfl) (by decide) ?_
  refine WL.val (Y.move rfl) (by decide) ?_
  refine WL.val (Y.move rfl) (by decide) ?_
  refine WL.val (Y.len_slice Tryd.underlying56 rfl) (by decide) ?_
  refine WL.st (St.makeB Tryd.underlying71 hbi hbz hbs hbb rfl rfl (by omega)) (by decide) fun v50 w5 hR5 => ?_
  obtain ⟨sb, rfl, hsb, hBs, hx5⟩ := hR5
  have hz5 := hx5.size
  have hE := hE.thenExt hx5
  have hlt5 := hBs.lt
  have hltM := hM.lt
  have hM := hM.ext hx5
  refine WL.val (Y.build rfl (build_look _ _ _ _ _ _)) (by decide) ?_
  refine WL.box rfl rfl (by decide) fun g52 w6 hx6 hg52 hB52 => ?_
  have hlt52 := hB52.lt; have hz6 := hx6.size
  have hM52 := hB52.mem; have hz6 := hx6.size; have hE := hE.thenExt hx6
  refine WL.val (Y.assign rfl) (by decide) ?_
  refine WL.val (Y.assign rfl) (by decide) ?_
  refine WL.nil ?_
  refine hK24 _ _ ?_; try clear hK24 K24
  refine CW.ret ⟨_, rfl, ?_⟩
  have he : wrongQ (ndsL l) (ds.map Prod.snd).flatten = 0 := by
    rw [wrongQ, if_neg (by rw [hok]; decide), if_neg]
    rintro ⟨d, hdm2, hn⟩
    obtain ⟨dl, h1, h2⟩ := List.mem_flatten.1 hdm2
    obtain ⟨y, h3, h4⟩ := List.mem_map.1 h1
    obtain ⟨j, hj⟩ := List.mem_iff_getElem?.1 h3
    exact hn (hin j y d (by have := (List.getElem?_eq_some_iff.1 hj).1; omega) hj (h4 ▸ h2))
  exact ⟨_, by rw [he], hE, fun _ => ⟨g52, r, sb, rfl, hl0, hE, ⟨by omega, by omega, by omega⟩, ⟨by omega, by omega, by omega⟩, hB52, hM.ext hx6, hBs.ext hx6, by simp, hok⟩⟩
end Go.Proofs.YtjbeooimhoilmaaDoor
/- A look at a graph gone over: reach and its closure, walked: what the iterator promises. No condition. -/
namespace Go.Proofs.YtjbeooimhoilmaaDoor
open Go.RowKit Go.Fw Go.Pl
abbrev TPk : TypeId := 88
abbrev TSd : TypeId := 25
abbrev rKeep (wb : World) (gk r sb b1 b2 : Nat) (_ : Unit) (_ k : Nat) : Prop := k < wb.heap.size ∨ k = gk ∨ k = r ∨ k = sb ∨ k = b1 ∨ k = b2
theorem greach_any (p : Addr) (A : Option Addr) (m c : Nat) (w : World) : Calls Tryd.prog 50 #[.pointer (some p), .slice A m c] w (Ret fun v w' => ∃ b1 b2, v = .func (.func 61) #[] #[.pointer (some ⟨b1, 0, none⟩), .pointer (some ⟨b2, 0, none⟩)] ∧ w.heap.size ≤ b1 ∧ w.heap.size ≤ b2 ∧ Blk w' b1 TPk [.pointer (some p)] ∧ Blk w' b2 TSd [.slice A m c] ∧ Ext w w') := by
  refine calls_of_CW 6 [4] [(0, .pointer (some p)), (1, .slice A m c)] Tryd.func50 rfl rfl rfl (by simp) args2 ?_
  have hE : Ext w w := Chg.refl
  refine CW.seq fun K1 hK1 => ?_
  refine CW.region ?_
  refine WL.box rfl rfl (by decide) fun g2 w1 hx1 hg2 hB2 => ?_
  have hlt2 := hB2.lt; have hz1 := hx1.size
  have hM2 := hB2.mem; have hz1 := hx1.size; have hE := hE.thenExt hx1
  refine WL.box rfl rfl (by decide) fun g3 w2 hx2 hg3 hB3 => ?_
  have hlt3 := hB3.lt; have hz2 := hx2.size
  have hM3 := hB3.mem; have hz2 := hx2.size; have hE := hE.thenExt hx2; have hB2 := hB2.ext hx2
  refine WL.val (Y.assign rfl) (by decide) ?_
  refine WL.nil ?_
  refine hK1 _ _ ?_; try clear hK1 K1
  refine CW.seq fun K2 hK2 => ?_
  refine CW.region ?_
  refine WL.val (Y.makeFunc rfl) (by decide) ?_
  refine WL.val (Y.assign rfl) (by decide) ?_
  refine WL.nil ?_
  refine hK2 _ _ ?_; try clear hK2 K2
  refine CW.ret ⟨_, rfl, ?_⟩
  exact ⟨g2, g3, rfl, hg2, by omega, hB2, hB3, hE⟩
set_option maxRecDepth 100000 in
set_option maxHeartbeats 2000000 in
theorem greach1_any (wb w_ : World) (gk r sb b1 b2 : Nat) (u v0 : Value) (l : List NdV) (ids : List Dig) (S0 : List Bool) (hK_ : LookAt wb w_ gk r sb u l S0) (hd : Sl wb digC 32 v0 ids) (hin : ∀ d ∈ ids, d ∈ idsL (ndsL l)) (h1_ : Blk w_ b1 TPk [.pointer (some ⟨gk, 0, none⟩)]) (h2_ : Blk w_ b2 TSd [v0]) (hb : wb.heap.size ≤ b1 ∧ wb.heap.size ≤ b2 ∧ b1 ≠ sb ∧ b2 ≠ sb) : IterC Tryd.prog 61 [.pointer (some ⟨b1, 0, none⟩), .pointer (some ⟨b2, 0, none⟩)] w_ (fun _ (_ : Unit) _ => True) (fun _ => reachL (ndsL l) ids) (fun i => [.int .i64 (i : Int)]) (fun k => k = sb) (rKeep wb gk r sb b1 b2) (fun _ _ _ => True) (fun V => ∃ S, LookAt wb V gk r sb u l S) := by
  obtain ⟨A1, m1, c1, rfl, hdm, hdc, hdx, hdg⟩ := hd
  unfold maxLen at hdx
  intro ln w J Jx hx0 hS hJ hJx hR
  have hK := hK_.ext hx0
  have hB1 := h1_.ext hx0
  have hB2 := h2_.ext hx0
  have hnew := hK.new
  have hne := hK.ne
  have hln := ok_len hK.ok
  have hnl : (ndsL l).length = l.length := by simp
  obtain ⟨A, c, rfl, hmc, hcm⟩ := hK.nds.sl.lens
  unfold maxLen at hcm
  refine calls_of_CW 78 [] [(0, .func (.yield ln) #[] #[]), (1, .pointer (some ⟨b1, 0, none⟩)), (2, .pointer (some ⟨b2, 0, none⟩))] Tryd.func61 rfl rfl rfl (by simp) args3 ?_
  have hE : Chg (fun k => k = sb) w w := Chg.refl
  refine CW.seq fun K1 hK1 => ?_
  refine CW.region ?_
  refine WL.val (Y.load1 Tryd.underlying88 rfl hB1.mem.cell0 rfl) (by decide) ?_
  refine WL.val (Y.nilCheck rfl) (by decide) ?_
  refine WL.val (Y.fieldAddr fo_graphlook2 rfl) (by decide) ?_
  refine WL.val (Y.load1 Tryd.underlying71 rfl hK.blk.mem.graphlook2 rfl) (by decide) ?_
  refine WL.su (Su.clearB Tryd.underlying71 zero_bool rfl hK.seen hK.len) fun w1 hR1 => ?_
  obtain ⟨hBs, hc1⟩ := hR1
  have hz1 := hc1.size
  have hE := hE.stepO hc1 (fun k h => .inl h)
  have hK := hK.see hc1 hBs (by simp)
  have hB1 := hB1.chg hc1 (fun h => by omega)
  have hB2 := hB2.chg hc1 (fun h => by omega)
  refine WL.nil ?_
  refine hK1 _ _ ?_; try clear hK1 K1
  refine CW.seq fun K2 hK2 => ?_
  refine CW.seq fun K3 hK3 => ?_
  refine CW.region ?_
  refine WL.val (Y.load1 Tryd.underlying25 rfl hB2.mem.cell0 rfl) (by decide) ?_
  refine WL.val (Y.len_slice Tryd.underlying25 rfl) (by decide) ?_
  refine WL.val (Y.move rfl) (by decide) ?_
  refine WL.nil ?_
  refine hK3 _ _ ?_; try clear hK3 K3
  refine CW.block ?_
  refine CW.loop (X := Nat) (fun x => [(0, .func (.yield ln) #[] #[]), (1, .pointer (some ⟨b1, 0, none⟩)), (2, .pointer (some ⟨b2, 0, none⟩)), (13, .slice A1 m1 c1), (14, .int .i64 (m1 : Int)), (15, .int .i64 (x : Int))]) (fun x w0 => x ≤ m1 ∧ LookAt wb w0 gk r sb (.slice A l.length c) l (setAll (ndsL l) (List.replicate l.length false) (ids.take x)) ∧ Chg (fun k => k = sb) w w0 ∧ Blk w0 b1 TPk [.pointer (some ⟨gk, 0, none⟩)] ∧ Blk w0 b2 TSd [.slice A1 m1 c1] ∧ w.heap.size ≤ w0.heap.size) (fun x => m1 - x) 0 (by repeat (first | exact Fr.le.nil | refine Fr.le.cons rfl ?_)) ⟨Nat.zero_le _, by simpa [setAll] using hK, hE, hB1, hB2, by omega⟩ ?_
  intro x w2 hl2
  obtain ⟨hxm, hK, hE, hB1, hB2, hz2⟩ := hl2
  have hltK := hK.lt
  refine CW.seq fun K4 hK4 => ?_
  refine CW.region ?_
  refine WL.val (Y.lss rfl rfl) (by decide) ?_
  refine WL.nil ?_
  refine hK4 _ _ ?_; try clear hK4 K4
  refine CW.seq fun K5 hK5 => ?_
  first | refine CW.condD rfl (fun ht6 => ?_) (fun ht6 => ?_) | refine CW.condND rfl (fun ht6 => ?_) (fun ht6 => ?_) | refine CW.condN rfl (fun ht6 => ?_) (fun ht6 => ?_) | refine CW.cond rfl (fun ht6 => ?_) (fun ht6 => ?_)
  · -- then
    refine CW.skip ?_
    refine hK5 _ _ ?_; try clear hK5 K5
    refine CW.seq fun K7 hK7 => ?_
    refine CW.block ?_
    refine CW.seq fun K8 hK8 => ?_
    obtain ⟨d, hd⟩ : ∃ d, ids[x]? = some d := ⟨_, List.getElem?_eq_getElem (by omega)⟩
    obtain ⟨a, rfl, hma⟩ := hdg _ _ hd
    have hdi := hin d (List.mem_of_getElem? hd)
    have hix := ixN_lt hdi
    rw [hnl] at hix
    obtain ⟨jf, hf⟩ := placed_ix hdi
    have hlS := hK.len
    obtain ⟨cb, hcb⟩ : ∃ cb, (setAll (ndsL l) (List.replicate l.length false) (ids.take x))[ixN (ndsL l) d]? = some cb := ⟨_, List.getElem?_eq_getElem (by omega)⟩
    refine CW.region ?_
    refine WL.val (Y.indexAddrN Tryd.underlying25 rfl rfl sz0_apiDigest (by omega)) (by decide) ?_
    refine WL.val (Y.load Tryd.underlying48 rfl (hma.ext hK.old) (sz_apiDigest _) rfl) (by decide) ?_
    refine as_apiDigest rfl (by simp) (by decide) fun g5 w3 hx3 hg5 hB5 => ?_
    have hlt5 := hB5.lt; have hz3 := hx3.size
    have hM5 := hB5.mem; have hz3 := hx3.size; have hE := hE.thenExt hx3; have hK := hK.ext hx3; have hB1 := hB1.ext hx3; have hB2 := hB2.ext hx3
    refine WL.nil ?_
    refine hK8 _ _ ?_; try clear hK8 K8
    refine CW.head 11 (by kernel_rfl) (by kernel_rfl) fun w4 hx4 => ?_
    skip; have hz4 := hx4.size; have hE := hE.thenExt hx4; have hK := hK.ext hx4; have hB1 := hB1.ext hx4; have hB2 := hB2.ext hx4; have hB5 := hB5.ext hx4
    refine HL.val (Y.load1 Tryd.underlying88 rfl hB1.mem.cell0 rfl) (by decide) ?_
    refine HL.val (Y.nilCheck rfl) (by decide) ?_
    refine HL.val (Y.fieldAddr fo_graphlook2 rfl) (by decide) ?_
    refine HL.val (Y.load1 Tryd.underlying71 rfl hK.blk.mem.graphlook2 rfl) (by decide) ?_
    refine HL.val (Y.load1 Tryd.underlying88 rfl hB1.mem.cell0 rfl) (by decide) ?_
    refine HL.val (Y.nilCheck rfl) (by decide) ?_
    refine HL.val (Y.fieldAddr fo_graphlook1 rfl) (by decide) ?_
    refine HL.val (Y.load1 Tryd.underlying66 rfl hK.blk.mem.graphlook1 rfl) (by decide) ?_
    refine HL.val (Y.load Tryd.underlying48 rfl hB5.mem (sz_apiDigest _) rfl) (by decide) ?_
    refine HL.val (Y.lookupAt keyDig (fun _ => rfl) Tryd.underlying66 rfl rfl hK.map hf rfl) (by decide) ?_
    refine HL.val (Y.indexAddrN Tryd.underlying71 rfl rfl sz0_bool (by omega)) (by decide) ?_
    refine HL.nil ?_
    refine WL.storeB rfl rfl rfl sz_bool hK.seen hcb (fun w5 hc5 hB5_ => ?_)
    have hz5 := hc5.size; have hE := hE.stepO hc5 (fun k h => (by show (k = sb) ∨ _; omega)); have hK := hK.see hc5 hB5_ (by rw [List.length_set]; exact hlS); have hB1 := hB1.chg hc5 (fun h => by omega); have hB2 := hB2.chg hc5 (fun h => by omega); have hB5 := hB5.chg hc5 (fun h => by omega)
    skip
    refine WL.nil ?_
    refine hK7 _ _ ?_; try clear hK7 K7
    refine CW.region ?_
    refine WL.val (Y.add rfl rfl ⟨by omega, by omega⟩) (by decide) ?_
    refine WL.val (Y.move rfl) (by decide) ?_
    refine WL.nil ?_
    refine ⟨x + 1, by show m1 - (x + 1) < m1 - x; omega, (by repeat (first | exact Fr.le.nil | refine Fr.le.cons rfl ?_)), by show x + 1 ≤ m1; omega, ?_, hE, hB1, hB2, by omega⟩
    show LookAt _ _ _ _ _ _ _ (setAll _ _ (ids.take (x + 1)))
    rw [take_succ hd, setAll_app]
    exact hK
  refine CW.exit ?_
  refine hK2 _ _ ?_; try clear hK2 K2
  refine CW.seq fun K9 hK9 => ?_
  refine CW.region ?_
  refine WL.val (Y.load1 Tryd.underlying88 rfl hB1.mem.cell0 rfl) (by decide) ?_
  refine WL.val (Y.nilCheck rfl) (by decide) ?_
  refine WL.val (Y.fieldAddr fo_graphlook0 rfl) (by decide) ?_
  refine WL.val (Y.load1 Tryd.underlying56 rfl hK.blk.mem.graphlook0 rfl) (by decide) ?_
  refine WL.val (Y.len_slice Tryd.underlying56 rfl) (by decide) ?_
  refine WL.val (Y.sub rfl rfl ⟨by omega, by omega⟩) (by decide) ?_
  refine WL.val (Y.assign rfl) (by decide) ?_
  refine WL.nil ?_
  refine hK9 _ _ ?_; try clear hK9 K9
  refine CW.block ?_
  refine CW.loop (X := Nat × Nat × List Bool) (fun x => [(0, .func (.yield ln) #[] #[]), (1, .pointer (some ⟨b1, 0, none⟩)), (2, .pointer (some ⟨b2, 0, none⟩)), (6, .int .i64 ((x.1 : Int) - 1))]) (fun x w0 => x.1 ≤ l.length ∧ LookAt wb w0 gk r sb (.slice A l.length c) l x.2.2 ∧ x.2.1 ≤ (reachL (ndsL l) ids).length ∧ (reachL (ndsL l) ids).drop x.2.1 = reachD (ndsL l) x.1 x.2.2 ∧ J () x.2.1 w0 ∧ Blk w0 b1 TPk [.pointer (some ⟨gk, 0, none⟩)] ∧ Blk w0 b2 TSd [.slice A1 m1 c1]) (fun x => x.1) (l.length, 0, mark0 (ndsL l) ids) (by repeat (first | exact Fr.le.nil | refine Fr.le.cons rfl ?_)) ⟨Nat.le_refl _, by rw [mark0, hnl]; rw [List.take_of_length_le (by omega)] at hK; exact hK, Nat.zero_le _, by rw [reachL, hnl, List.drop_zero], hS () _ hE trivial, hB1, hB2⟩ ?_
  intro x w6 hl6
  clear hE hK hB1 hB2
  obtain ⟨k, j, S⟩ := x
  dsimp only at hl6 ⊢
  obtain ⟨hkl, hK, hjl, hdrop, hj, hB1, hB2⟩ := hl6
  have hE : Chg (fun k => k = sb) w6 w6 := Chg.refl
  refine CW.seq fun K10 hK10 => ?_
  refine CW.seq fun K11 hK11 => ?_
  refine CW.region ?_
  refine WL.val (Y.move rfl) (by decide) ?_
  refine WL.val (Y.geq rfl rfl) (by decide) ?_
  refine WL.nil ?_
  refine hK11 _ _ ?_; try clear hK11 K11
  first | refine CW.condD rfl (fun ht12 => ?_) (fun ht12 => ?_) | refine CW.condND rfl (fun ht12 => ?_) (fun ht12 => ?_) | refine CW.condN rfl (fun ht12 => ?_) (fun ht12 => ?_) | refine CW.cond rfl (fun ht12 => ?_) (fun ht12 => ?_)
  · -- then
    refine CW.skip ?_
    refine hK10 _ _ ?_; try clear hK10 K10
    obtain ⟨i, rfl⟩ : ∃ i, k = i + 1 := ⟨k - 1, by omega⟩
    rw [show (((i + 1 : Nat) : Int) - 1) = (i : Int) by omega]
    obtain ⟨y, hy⟩ : ∃ y, l[i]? = some y := ⟨_, List.getElem?_eq_getElem (by omega)⟩
    obtain ⟨⟨id, ps⟩, Ay, cy⟩ := y
    have hyn : (ndsL l)[i]? = some ⟨id, ps⟩ := by simp [hy]
    have hlS := hK.len
    obtain ⟨cb, hcb⟩ : ∃ cb, S[i]? = some cb := ⟨_, List.getElem?_eq_getElem (by omega)⟩
    obtain ⟨a, rfl, hma⟩ := hK.nds.sl.at hy
    have hps0 := hK.nds.ps _ (List.mem_of_getElem? hy)
    dsimp only [NdV.pv] at hps0
    have hps1 := hps0
    obtain ⟨_, _, _, he_, _, hcy, hcy2, _⟩ := hps1
    cases he_
    unfold maxLen at hcy2
    refine CW.seq_to (X := Nat × List Bool) (fun u => [(0, .func (.yield ln) #[] #[]), (1, .pointer (some ⟨b1, 0, none⟩)), (2, .pointer (some ⟨b2, 0, none⟩)), (6, .int .i64 (i : Int))]) (fun u w0 => LookAt wb w0 gk r sb (.slice (some a) l.length c) l u.2 ∧ u.1 ≤ (reachL (ndsL l) ids).length ∧ (reachL (ndsL l) ids).drop u.1 = reachD (ndsL l) i u.2 ∧ J () u.1 w0 ∧ Blk w0 b1 TPk [.pointer (some ⟨gk, 0, none⟩)] ∧ Blk w0 b2 TSd [.slice A1 m1 c1]) ?_ ?_
    · skip
      refine CW.block ?_
      refine CW.seq fun K14 hK14 => ?_
      refine CW.seq fun K15 hK15 => ?_
      refine CW.region ?_
      refine WL.val (Y.load1 Tryd.underlying88 rfl hB1.mem.cell0 rfl) (by decide) ?_
      refine WL.val (Y.nilCheck rfl) (by decide) ?_
      refine WL.val (Y.fieldAddr fo_graphlook2 rfl) (by decide) ?_
      refine WL.val (Y.load1 Tryd.underlying71 rfl hK.blk.mem.graphlook2 rfl) (by decide) ?_
      refine WL.val (Y.move rfl) (by decide) ?_
      refine WL.val (Y.indexAddrN Tryd.underlying71 rfl rfl sz0_bool (by omega)) (by decide) ?_
      refine WL.val (Y.load1 Tryd.underlying4 rfl (hK.seen.bcell hcb) rfl) (by decide) ?_
      refine WL.val (Y.not rfl) (by decide) ?_
      refine WL.nil ?_
      refine hK15 _ _ ?_; try clear hK15 K15
      first | refine CW.condD rfl (fun ht16 => ?_) (fun ht16 => ?_) | refine CW.condND rfl (fun ht16 => ?_) (fun ht16 => ?_) | refine CW.condN rfl (fun ht16 => ?_) (fun ht16 => ?_) | refine CW.cond rfl (fun ht16 => ?_) (fun ht16 => ?_)
      · -- then
        refine CW.exit ?_
        refine ⟨(j, S), (by repeat (first | exact Fr.le.nil | refine Fr.le.cons rfl ?_)), hK, hjl, ?_, hj, hB1, hB2⟩
        rw [hdrop, reachD, if_neg (fun h => by rw [hcb] at h; simp_all)]
      refine CW.skip ?_
      refine hK14 _ _ ?_; try clear hK14 K14
      refine CW.seq fun K17 hK17 => ?_
      refine CW.seq fun K18 hK18 => ?_
      refine CW.region ?_
      refine WL.val (Y.load1 Tryd.underlying88 rfl hB1.mem.cell0 rfl) (by decide) ?_
      refine WL.val (Y.nilCheck rfl) (by decide) ?_
      refine WL.val (Y.fieldAddr fo_graphlook0 rfl) (by decide) ?_
      refine WL.val (Y.load1 Tryd.underlying56 rfl hK.blk.mem.graphlook0 rfl) (by decide) ?_
      refine WL.val (Y.move rfl) (by decide) ?_
      refine WL.val (Y.indexAddrN Tryd.underlying56 rfl rfl sz0_apiNode (by omega)) (by decide) ?_
      refine WL.val (Y.fieldAddr fo_apiNode1 rfl) (by decide) ?_
      refine WL.val (Y.load1 Tryd.underlying25 rfl (hma.ext hK.old).node1 rfl) (by decide) ?_
      refine WL.val (Y.len_slice Tryd.underlying25 rfl) (by decide) ?_
      refine WL.val (Y.move rfl) (by decide) ?_
      refine WL.nil ?_
      refine hK18 _ _ ?_; try clear hK18 K18
      refine CW.block ?_
      refine CW.loop (X := Nat) (fun x => [(0, .func (.yield ln) #[] #[]), (1, .pointer (some ⟨b1, 0, none⟩)), (2, .pointer (some ⟨b2, 0, none⟩)), (6, .int .i64 (i : Int)), (56, .slice Ay ps.length cy), (57, .int .i64 (ps.length : Int)), (58, .int .i64 (x : Int))]) (fun x w0 => x ≤ ps.length ∧ LookAt wb w0 gk r sb (.slice (some a) l.length c) l (setAll (ndsL l) S (ps.take x)) ∧ Chg (fun k => k = sb) w6 w0 ∧ Blk w0 b1 TPk [.pointer (some ⟨gk, 0, none⟩)] ∧ Blk w0 b2 TSd [.slice A1 m1 c1] ∧ w6.heap.size ≤ w0.heap.size) (fun x => ps.length - x) 0 (by repeat (first | exact Fr.le.nil | refine Fr.le.cons rfl ?_)) ⟨Nat.zero_le _, by simpa [setAll] using hK, hE, hB1, hB2, Nat.le_refl _⟩ ?_
      intro x w7 hl7
      obtain ⟨hxp, hK, hE, hB1, hB2, hz7⟩ := hl7
      have hltK := hK.lt
      refine CW.seq fun K19 hK19 => ?_
      refine CW.region ?_
      refine WL.val (Y.lss rfl rfl) (by decide) ?_
      refine WL.nil ?_
      refine hK19 _ _ ?_; try clear hK19 K19
      refine CW.seq fun K20 hK20 => ?_
      first | refine CW.condD rfl (fun ht21 => ?_) (fun ht21 => ?_) | refine CW.condND rfl (fun ht21 => ?_) (fun ht21 => ?_) | refine CW.condN rfl (fun ht21 => ?_) (fun ht21 => ?_) | refine CW.cond rfl (fun ht21 => ?_) (fun ht21 => ?_)
      · -- then
        refine CW.skip ?_
        refine hK20 _ _ ?_; try clear hK20 K20
        refine CW.seq fun K22 hK22 => ?_
        refine CW.block ?_
        refine CW.seq fun K23 hK23 => ?_
        obtain ⟨d, hd⟩ : ∃ d, ps[x]? = some d := ⟨_, List.getElem?_eq_getElem (by omega)⟩
        obtain ⟨a2, rfl, hma2⟩ := hps0.at hd
        have hdi := mem_idsTake (ok_par hK.ok hyn (List.mem_of_getElem? hd))
        have hix := ixN_lt hdi
        rw [hnl] at hix
        obtain ⟨jf, hf⟩ := placed_ix hdi
        have hlS := hK.len
        obtain ⟨cb2, hcb2⟩ : ∃ cb, (setAll (ndsL l) S (ps.take x))[ixN (ndsL l) d]? = some cb := ⟨_, List.getElem?_eq_getElem (by omega)⟩
        refine CW.region ?_
        refine WL.val (Y.indexAddrN Tryd.underlying25 rfl rfl sz0_apiDigest (by omega)) (by decide) ?_
        refine WL.val (Y.load Tryd.underlying48 rfl (hma2.ext hK.old) (sz_apiDigest _) rfl) (by decide) ?_
        refine as_apiDigest rfl (by simp) (by decide) fun g8 w8 hx8 hg8 hB8 => ?_
        have hlt8 := hB8.lt; have hz8 := hx8.size
        have hM8 := hB8.mem; have hz8 := hx8.size; have hE := hE.thenExt hx8; have hK := hK.ext hx8; have hB1 := hB1.ext hx8; have hB2 := hB2.ext hx8
        refine WL.nil ?_
        refine hK23 _ _ ?_; try clear hK23 K23
        refine CW.head 11 (by kernel_rfl) (by kernel_rfl) fun w9 hx9 => ?_
        skip; have hz9 := hx9.size; have hE := hE.thenExt hx9; have hK := hK.ext hx9; have hB1 := hB1.ext hx9; have hB2 := hB2.ext hx9; have hB8 := hB8.ext hx9
        refine HL.val (Y.load1 Tryd.underlying88 rfl hB1.mem.cell0 rfl) (by decide) ?_
        refine HL.val (Y.nilCheck rfl) (by decide) ?_
        refine HL.val (Y.fieldAddr fo_graphlook2 rfl) (by decide) ?_
        refine HL.val (Y.load1 Tryd.underlying71 rfl hK.blk.mem.graphlook2 rfl) (by decide) ?_
        refine HL.val (Y.load1 Tryd.underlying88 rfl hB1.mem.cell0 rfl) (by decide) ?_
        refine HL.val (Y.nilCheck rfl) (by decide) ?_
        refine HL.val (Y.fieldAddr fo_graphlook1 rfl) (by decide) ?_
        refine HL.val (Y.load1 Tryd.underlying66 rfl hK.blk.mem.graphlook1 rfl) (by decide) ?_
        refine HL.val (Y.load Tryd.underlying48 rfl hB8.mem (sz_apiDigest _) rfl) (by decide) ?_
        refine HL.val (Y.lookupAt keyDig (fun _ => rfl) Tryd.underlying66 rfl rfl hK.map hf rfl) (by decide) ?_
        refine HL.val (Y.indexAddrN Tryd.underlying71 rfl rfl sz0_bool (by omega)) (by decide) ?_
        refine HL.nil ?_
        refine WL.storeB rfl rfl rfl sz_bool hK.seen hcb2 (fun w10 hc10 hB10_ => ?_)
        have hz10 := hc10.size; have hE := hE.stepO hc10 (fun k h => (by show (k = sb) ∨ _; omega)); have hK := hK.see hc10 hB10_ (by rw [List.length_set]; exact hlS); have hB1 := hB1.chg hc10 (fun h => by omega); have hB2 := hB2.chg hc10 (fun h => by omega); have hB8 := hB8.chg hc10 (fun h => by omega)
        skip
        refine WL.nil ?_
        refine hK22 _ _ ?_; try clear hK22 K22
        refine CW.region ?_
        refine WL.val (Y.add rfl rfl ⟨by omega, by omega⟩) (by decide) ?_
        refine WL.val (Y.move rfl) (by decide) ?_
        refine WL.nil ?_
        refine ⟨x + 1, by show ps.length - (x + 1) < ps.length - x; omega, (by repeat (first | exact Fr.le.nil | refine Fr.le.cons rfl ?_)), by show x + 1 ≤ ps.length; omega, ?_, hE, hB1, hB2, by omega⟩
        show LookAt _ _ _ _ _ _ _ (setAll _ _ (ps.take (x + 1)))
        rw [take_succ hd, setAll_app]
        exact hK
      refine CW.exit ?_
      refine hK17 _ _ ?_; try clear hK17 K17
      refine CW.seq fun K24 hK24 => ?_
      have hSt : S[i]? = some true := by rw [hcb]; simp_all
      have hdrop2 : (reachL (ndsL l) ids).drop j = i :: reachD (ndsL l) i (upd (ndsL l) S i) := by rw [hdrop, reachD, if_pos hSt]
      have hXj : (reachL (ndsL l) ids)[j]? = some i := by
        have h0 : ((reachL (ndsL l) ids).drop j)[0]? = some i := by rw [hdrop2]; rfl
        rwa [List.getElem?_drop, Nat.add_zero] at h0
      have hXl := (List.getElem?_eq_some_iff.1 hXj).1
      have hSe : setAll (ndsL l) S (ps.take x) = upd (ndsL l) S i := by rw [List.take_of_length_le (by omega), upd_yes hyn hSt]
      refine CW.regionI ?_
      refine WI.val (Y.move rfl) (by decide) ?_
      refine WI.val (Y.move rfl) (by decide) ?_
      refine WI.yield rfl rfl (hR () j i w7 (hJ () j _ _ hj hE) hXj trivial) (by decide) (fun b76 w11 hR11 => ?_)
      skip
      refine WI.val (Y.not rfl) (by decide) ?_
      refine WI.nil ?_
      refine hK24 _ _ ?_; try clear hK24 K24
      first | refine CW.condD rfl (fun ht25 => ?_) (fun ht25 => ?_) | refine CW.condND rfl (fun ht25 => ?_) (fun ht25 => ?_) | refine CW.condN rfl (fun ht25 => ?_) (fun ht25 => ?_) | refine CW.cond rfl (fun ht25 => ?_) (fun ht25 => ?_)
      · -- then
        refine CW.ret ⟨_, rfl, ?_⟩
        rcases hR11 with ⟨hb, _⟩ | ⟨_, h, hc⟩
        · simp_all
        · exact ⟨.inr h, _, (hK.chg hc (fun h => h (.inr (.inl rfl))) (fun h => h (.inr (.inr (.inl rfl)))) (fun h => h (.inr (.inr (.inr (.inl rfl))))) (fun k hk => Nat.le_of_not_lt fun h => hk (.inl h)))⟩
      refine CW.skip ?_
      rcases hR11 with ⟨_, hj2, hc⟩ | ⟨hb, _⟩
      · refine ⟨(j + 1, upd (ndsL l) S i), (by repeat (first | exact Fr.le.nil | refine Fr.le.cons rfl ?_)), ?_, by show j + 1 ≤ _; omega, ?_, hj2, hB1.chg hc (fun h => h (.inr (.inr (.inr (.inr (.inl rfl)))))), hB2.chg hc (fun h => h (.inr (.inr (.inr (.inr (.inr rfl))))))⟩
        · rw [hSe] at hK
          exact hK.chg hc (fun h => h (.inr (.inl rfl))) (fun h => h (.inr (.inr (.inl rfl)))) (fun h => h (.inr (.inr (.inr (.inl rfl))))) (fun k hk => Nat.le_of_not_lt fun h => hk (.inl h))
        · have h1 := congrArg List.tail hdrop2
          simpa [List.tail_drop] using h1
      · simp_all
    rintro u w12 hj12
    obtain ⟨j2, S2⟩ := u
    dsimp only at hj12 ⊢
    obtain ⟨hK, hjl, hdrop, hj, hB1, hB2⟩ := hj12
    refine CW.region ?_
    refine WL.val (Y.move rfl) (by decide) ?_
    refine WL.val (Y.sub rfl rfl ⟨by omega, by omega⟩) (by decide) ?_
    refine WL.val (Y.assign rfl) (by decide) ?_
    refine WL.nil ?_
    exact ⟨(i, j2, S2), by show i < i + 1; omega, (by repeat (first | exact Fr.le.nil | refine Fr.le.cons rfl ?_)), by show i ≤ l.length; omega, hK, hjl, hdrop, hj, hB1, hB2⟩
  refine CW.exit ?_
  refine ⟨_, rfl, ?_⟩
  refine ⟨.inl ⟨(), ?_⟩, _, hK⟩
  have h0 : (reachL (ndsL l) ids).drop j = [] := by rw [hdrop, show k = 0 by omega]; rfl
  have h1 := List.drop_eq_nil_iff.1 h0
  rw [show (reachL (ndsL l) ids).length = j by omega]
  exact hj
end Go.Proofs.YtjbeooimhoilmaaDoor
/- A look's marks, walked. No condition. -/
namespace Go.Proofs.YtjbeooimhoilmaaDoor
open Go.RowKit Go.Fw Go.Pl
abbrev TSb : TypeId := 71
set_option maxHeartbeats 1000000 in
theorem gmarks_any (wb w : World) (gk r sb : Nat) (u v0 : Value) (l : List NdV) (ids : List Dig) (S0 : List Bool) (hK : LookAt wb w gk r sb u l S0) (hd : Sl wb digC 32 v0 ids) (hin : ∀ d ∈ ids, d ∈ idsL (ndsL l)) : Calls Tryd.prog 35 #[.pointer (some ⟨gk, 0, none⟩), v0] w (Ret fun v w' => ∃ b, v = .slice (some ⟨b, 0, none⟩) l.length l.length ∧ w.heap.size ≤ b ∧ Blk w' b TBo (boolC (markS (ndsL l) ids)) ∧ (∃ S, LookAt wb w' gk r sb u l S) ∧ Chg (fun k => k = sb) w w') := by
  obtain ⟨A1, c1, rfl, hdc, hdx⟩ := hd.lens
  obtain ⟨m1, hm1⟩ : ∃ m1, m1 = ids.length := ⟨_, rfl⟩
  rw [← hm1] at hd ⊢
  obtain ⟨A, c, rfl, hmc, hcm⟩ := hK.nds.sl.lens
  unfold maxLen at hcm
  have hln := ok_len hK.ok
  have hnl : (ndsL l).length = l.length := by simp
  have hltK := hK.lt
  have hzK := hK.old.size
  obtain ⟨bi, hbi, hbz, hbs, hbb⟩ := info_boolT
  refine calls_of_CN 21 [4] [(0, .pointer (some ⟨gk, 0, none⟩)), (1, .slice A1 m1 c1)] Tryd.func35 rfl rfl rfl (by simp) args2 ?_
  have hE : Chg (fun k => k = sb) w w := Chg.refl
  refine CN.seq fun K1 hK1 => ?_
  refine CN.of_CW ?_
  refine CW.region ?_
  refine WL.val (Y.assign rfl) (by first | decide | exact Nat.le_of_ble_eq_true rfl) ?_
  refine WL.nil ?_
  refine hK1 _ _ _ ?_; try clear hK1 K1
  refine CN.seq fun K2 hK2 => ?_
  refine CN.of_CW ?_
  refine CW.region ?_
  refine WL.val (Y.move rfl) (by first | decide | exact Nat.le_of_ble_eq_true rfl) ?_
  refine WL.val (Y.nilCheck rfl) (by first | decide | exact Nat.le_of_ble_eq_true rfl) ?_
  refine WL.val (Y.fieldAddr fo_graphlook0 rfl) (by first | decide | exact Nat.le_of_ble_eq_true rfl) ?_
  refine WL.val (Y.load1 Tryd.underlying56 rfl hK.blk.mem.graphlook0 rfl) (by first | decide | exact Nat.le_of_ble_eq_true rfl) ?_
  refine WL.val (Y.len_slice Tryd.underlying56 rfl) (by first | decide | exact Nat.le_of_ble_eq_true rfl) ?_
  refine WL.st (St.makeB Tryd.underlying71 hbi hbz hbs hbb rfl rfl (by omega)) (by first | decide | exact Nat.le_of_ble_eq_true rfl) fun v12 w1 hR1 => ?_
  obtain ⟨b, rfl, hb, hIn, hx1⟩ := hR1
  have hz1 := hx1.size
  have hE := hE.thenExt hx1
  have hK := hK.ext hx1
  have hltb := hIn.lt
  refine WL.allocStore1 (by kernel_rfl) rfl (by simp) rfl rfl (by first | decide | exact Nat.le_of_ble_eq_true rfl) fun g5 w2 hx2 hg5 hB5 => ?_
  have hlt5 := hB5.lt; have hz2 := hx2.size
  have hM5 := hB5.mem; have hz2 := hx2.size; have hE := hE.thenExt hx2; have hK := hK.ext hx2
  refine WL.nil ?_
  refine hK2 _ _ _ ?_; try clear hK2 K2
  refine CN.seq fun K3 hK3 => ?_
  refine CN.seq fun K4 hK4 => ?_
  refine CN.of_CW ?_
  refine CW.region ?_
  refine WL.val (Y.move rfl) (by first | decide | exact Nat.le_of_ble_eq_true rfl) ?_
  refine WL.val (Y.move rfl) (by first | decide | exact Nat.le_of_ble_eq_true rfl) ?_
  refine WL.call Tryd.func50 rfl rfl rfl (greach_any ⟨gk, 0, none⟩ A1 m1 c1 _) (by simp) ?_; rintro v15 w3 hR3
  obtain ⟨b1, b2, rfl, hb1, hb2, hBb1, hBb2, hx3⟩ := hR3
  have hz3 := hx3.size
  have hE := hE.thenExt hx3
  have hK := hK.ext hx3
  have hIn := (hIn.ext hx2).ext hx3
  have hB5 := hB5.ext hx3
  have hltb1 := hBb1.lt
  have hltb2 := hBb2.lt
  refine WL.nil ?_
  refine hK4 _ _ _ ?_; try clear hK4 K4
  refine CN.block ?_
  refine CN.range (rfl) Tryd.func61 rfl rfl (greach1_any wb _ gk r sb b1 b2 _ _ l ids _ hK hd hin hBb1 hBb2 ⟨by omega, by omega, by omega, by omega⟩) (fun _ => rfl) (by first | decide | exact Nat.le_of_ble_eq_true rfl) (fun k h => by omega) (fun w1 s V hz _ i hk => by rcases hk with h | h | h | h | h | h <;> omega) (fun _ i V => Blk V g5 TSb [.slice (some ⟨b, 0, none⟩) l.length l.length] ∧ Blk V b TBo (boolC (setI (List.replicate l.length false) ((reachL (ndsL l) ids).take i))) ∧ Chg (fun k => k = sb) w V) (fun _ _ _ => False) ?_ ?_ ?_ ?_ ?_ ?_
  · intro w1_ s_ V hw_ hz_ hc_ hs_
    exact ⟨(hB5.ext hw_).chg hc_ (fun h => by omega), by simpa [setI] using (hIn.ext hw_).chg hc_ (fun h => by omega), (hE.thenExt hw_).stepO hc_ (fun k h => .inl h)⟩
  · intro s_ i_ V V_ hi_ hc_
    obtain ⟨hB5, hIn, hE⟩ := hi_
    exact ⟨hB5.chg hc_ (fun h => by rcases h with h | h <;> omega), hIn.chg hc_ (fun h => by rcases h with h | h <;> omega), hE.stepO hc_ (fun k h => by rcases h with h | h; exact .inl h; exact .inr (by omega))⟩
  · intro s_ e_ V V_ hi_ hc_
    exact hi_.elim
  · intro s_ i_ x_ w4 hi_ hx_ hat_ hz_
    obtain ⟨hB5, hIn, hE⟩ := hi_
    have hxl := reachD_lt (List.mem_of_getElem? hx_)
    rw [hnl] at hxl
    obtain ⟨cb, hcb⟩ : ∃ cb, (setI (List.replicate l.length false) ((reachL (ndsL l) ids).take i_))[x_]? = some cb := ⟨_, List.getElem?_eq_getElem (by rw [setI_length, List.length_replicate]; exact hxl)⟩
    refine CW.region ?_
    refine WL.val (Y.assign rfl) (by first | decide | exact Nat.le_of_ble_eq_true rfl) ?_
    refine WL.nil ?_
    have hE_ : Ext w4 w4 := Chg.refl
    refine ⟨hE_, fun w5 hc_ => ?_⟩
    have hz5 := hc_.size
    have hB5 := hB5.chg hc_ (fun h => by omega)
    have hIn := hIn.chg hc_ (fun h => by omega)
    have hE := hE.stepO hc_ (fun k h => .inr (by omega))
    refine CW.block ?_
    refine CW.region ?_
    refine WL.val (Y.load1 Tryd.underlying71 rfl hB5.mem.cell0 rfl) (by first | decide | exact Nat.le_of_ble_eq_true rfl) ?_
    refine WL.val (Y.move rfl) (by first | decide | exact Nat.le_of_ble_eq_true rfl) ?_
    refine WL.val (Y.indexAddrN Tryd.underlying71 rfl rfl sz0_bool (by omega)) (by first | decide | exact Nat.le_of_ble_eq_true rfl) ?_
    refine WL.storeB rfl rfl rfl sz_bool hIn hcb (fun w6 hc6 hB6_ => ?_)
    have hz6 := hc6.size; have hE := hE.stepO hc6 (fun k h => (by show (k = sb) ∨ _; omega)); have hB5 := hB5.chg hc6 (fun h => by omega)
    skip
    refine WL.nil ?_
    refine ⟨⟨hB5, ?_, hE⟩, hc6.mono fun k _ h => ⟨fun hk => by rcases hk with h | h | h | h | h | h <;> omega, by omega, by omega⟩⟩
    rw [take_succ hx_, setI_app]
    exact hB6_
  · intro s_ w7 hi_ hD_ hfin_
    obtain ⟨hB5, hIn, hE⟩ := hi_
    obtain ⟨V0, ⟨S2, hKf⟩, hcf⟩ := hfin_
    have hK := hKf.chg hcf (fun h => by omega) (fun h => by omega) (fun h => by omega) (fun k h => by omega)
    rw [List.take_length] at hIn
    refine hK3 _ _ _ ?_; try clear hK3 K3
    refine CN.seq fun K5 hK5 => ?_
    refine CN.of_CW ?_
    refine CW.region ?_
    refine WL.val (Y.load1 Tryd.underlying71 rfl hB5.mem.cell0 rfl) (by first | decide | exact Nat.le_of_ble_eq_true rfl) ?_
    refine WL.val (Y.assign rfl) (by first | decide | exact Nat.le_of_ble_eq_true rfl) ?_
    refine WL.nil ?_
    refine hK5 _ _ _ ?_; try clear hK5 K5
    refine CN.ret ?_
    exact ⟨[w3.heap.size], rfl, by simp, (fun D hD => by simp at hD; subst hD; exact hD_), _, rfl, fun w_ hc => ⟨b, rfl, hb, by rw [markS, hnl]; exact hIn.chg hc (fun h => by simp at h; omega), ⟨S2, hK.chg hc (fun h => by simp at h; omega) (fun h => by simp at h; omega) (fun h => by simp at h; omega) (fun k h => by simp at h; omega)⟩, hE.stepO hc (fun k h => .inr (by simp at h; omega))⟩⟩
  · intro s_ e_ w8 hi_ hD_ hfin_ he_
    exact hi_.elim
end Go.Proofs.YtjbeooimhoilmaaDoor
/- Closures over a look's marks; slices.IndexFunc, ContainsFunc at digests, walked. No condition. -/
namespace Go.Pl
open Go.Fw
def bitAt (S : List Bool) (l : List Nd) (d : Dig) : Bool := S[ixN l d]?.getD false
end Go.Pl
namespace Go.Proofs.YtjbeooimhoilmaaDoor
open Go.RowKit Go.Fw Go.Pl
theorem gorder1_any (wb w : World) (gk r sb b bi bk : Nat) (u : Value) (l : List NdV) (S0 In : List Bool) (d : Dig) (hK : LookAt wb w gk r sb u l S0) (hIn : Blk w b TBo (boolC In)) (hil : In.length = l.length) (hB1 : Blk w bi TSb [.slice (some ⟨b, 0, none⟩) l.length l.length]) (hB2 : Blk w bk TPk [.pointer (some ⟨gk, 0, none⟩)]) (hd : d ∈ idsL (ndsL l)) : Calls Tryd.prog 49 #[digV d, .pointer (some ⟨bi, 0, none⟩), .pointer (some ⟨bk, 0, none⟩)] w (Ret fun v w' => v = .bool (!bitAt In (ndsL l) d) ∧ Ext w w') := by
  have hnl : (ndsL l).length = l.length := by simp
  have hix := ixN_lt hd
  rw [hnl] at hix
  obtain ⟨jf, hf⟩ := placed_ix hd
  obtain ⟨cb, hcb⟩ : ∃ cb, In[ixN (ndsL l) d]? = some cb := ⟨_, List.getElem?_eq_getElem (by omega)⟩
  have hbit : bitAt In (ndsL l) d = cb := by rw [bitAt, hcb]; rfl
  refine calls_of_CW 15 [4] [(0, digV d), (1, .pointer (some ⟨bi, 0, none⟩)), (2, .pointer (some ⟨bk, 0, none⟩))] Tryd.func49 rfl rfl rfl (by simp) args3 ?_
  have hE : Ext w w := Chg.refl
  refine CW.seq fun K1 hK1 => ?_
  refine CW.region ?_
  refine WL.box rfl rfl (by decide) fun g3 w1 hx1 hg3 hB3 => ?_
  have hlt3 := hB3.lt; have hz1 := hx1.size
  have hM3 := hB3.mem; have hz1 := hx1.size; have hE := hE.thenExt hx1; have hK := hK.ext hx1; have hIn := hIn.ext hx1; have hB1 := hB1.ext hx1; have hB2 := hB2.ext hx1
  refine WL.val (Y.assign rfl) (by decide) ?_
  refine WL.nil ?_
  refine hK1 _ _ ?_; try clear hK1 K1
  refine CW.seq fun K2 hK2 => ?_
  refine CW.quiet (fun wq => Ext w1 wq) (by kernel_rfl) (by kernel_rfl) Chg.drew ?_
  refine QL.val (fun wq hq => Y.load1 Tryd.underlying71 rfl (hB1.ext hq).mem.cell0 rfl) (by decide) ?_
  refine QL.val (fun wq hq => Y.load1 Tryd.underlying88 rfl (hB2.ext hq).mem.cell0 rfl) (by decide) ?_
  refine QL.val (fun wq hq => Y.nilCheck rfl) (by decide) ?_
  refine QL.val (fun wq hq => Y.fieldAddr fo_graphlook1 rfl) (by decide) ?_
  refine QL.val (fun wq hq => Y.load1 Tryd.underlying66 rfl (hK.ext hq).blk.mem.graphlook1 rfl) (by decide) ?_
  refine QL.val (fun wq hq => Y.load Tryd.underlying48 rfl (hB3.ext hq).mem (sz_apiDigest _) rfl) (by decide) ?_
  refine QL.val (fun wq hq => Y.lookupAt keyDig (fun _ => rfl) Tryd.underlying66 rfl rfl (hK.ext hq).map hf rfl) (by decide) ?_
  refine QL.val (fun wq hq => Y.indexAddrN Tryd.underlying71 rfl rfl sz0_bool (by omega)) (by decide) ?_
  refine QL.val (fun wq hq => Y.load1 Tryd.underlying4 rfl ((hIn.ext hq).bcell hcb) rfl) (by decide) ?_
  refine QL.val (fun wq hq => Y.not rfl) (by decide) ?_
  refine QL.val (fun wq hq => Y.assign rfl) (by decide) ?_
  refine QL.nil fun w2 hx2 => ?_
  have hz2 := hx2.size
  have hE := hE.thenExt hx2
  have hK := hK.ext hx2
  have hIn := hIn.ext hx2
  have hB1 := hB1.ext hx2
  have hB2 := hB2.ext hx2
  have hB3 := hB3.ext hx2
  refine hK2 _ _ ?_; try clear hK2 K2
  refine CW.ret ⟨_, rfl, ?_⟩
  exact ⟨by rw [hbit], hE⟩
theorem indexFunc_any {f : Nat} {fn : Func} (p : Dig → Bool) (cap : List Value) (u : Value) (l : List Dig) (w : World) (hf : Tryd.prog.funcs[f]? = some fn) (hb : fn.body.isNone = false) (hn : (fn.name == "runtime.NumGoroutine") = false) (hC : ∀ (d : Dig) (w1 : World), d ∈ l → Ext w w1 → Calls Tryd.prog f (digV d :: cap).toArray w1 (Ret fun v w2 => v = .bool (p d) ∧ Ext w1 w2)) (hu : Sl w digC 32 u l) : Calls Tryd.prog 60 #[u, .func (.func f) #[] cap.toArray] w (Ret fun v w' => ∃ k : Int, v = .int .i64 k ∧ ((k = -1 ∧ ∀ d ∈ l, p d = false) ∨ ∃ (j : Nat) (d : Dig), k = (j : Int) ∧ l[j]? = some d ∧ p d = true ∧ ∀ i d, i < j → l[i]? = some d → p d = false) ∧ Ext w w') := by
  have hl := hu
  obtain ⟨A, m, c, rfl, hm, hmc, hcm, hlx⟩ := hu
  unfold maxLen at hcm
  refine calls_of_CW 19 [4] [(0, .slice A m c), (1, .func (.func f) #[] cap.toArray)] Tryd.func60 rfl rfl rfl (by simp) args2 ?_
  have hE : Ext w w := Chg.refl
  refine CW.seq fun K1 hK1 => ?_
  refine CW.region ?_
  refine WL.val (Y.assign rfl) (by decide) ?_
  refine WL.nil ?_
  refine hK1 _ _ ?_; try clear hK1 K1
  refine CW.seq fun K2 hK2 => ?_
  refine CW.seq fun K3 hK3 => ?_
  refine CW.region ?_
  refine WL.val (Y.move rfl) (by decide) ?_
  refine WL.val (Y.len_slice Tryd.underlying25 rfl) (by decide) ?_
  refine WL.val (Y.move rfl) (by decide) ?_
  refine WL.nil ?_
  refine hK3 _ _ ?_; try clear hK3 K3
  refine CW.block ?_
  refine CW.loop (X := Nat) (fun x => [(0, .slice A m c), (1, .func (.func f) #[] cap.toArray), (7, .int .i64 (m : Int)), (8, .int .i64 (x : Int))]) (fun x w0 => x ≤ m ∧ (∀ i d, i < x → l[i]? = some d → p d = false) ∧ Ext w w0) (fun x => m - x) 0 (by repeat (first | exact Fr.le.nil | refine Fr.le.cons rfl ?_)) ⟨Nat.zero_le _, (fun i d h => by omega), hE⟩ ?_
  intro x w1 hl1
  obtain ⟨hxm, hno, hE⟩ := hl1
  refine CW.seq fun K4 hK4 => ?_
  refine CW.region ?_
  refine WL.val (Y.lss rfl rfl) (by decide) ?_
  refine WL.nil ?_
  refine hK4 _ _ ?_; try clear hK4 K4
  refine CW.seq fun K5 hK5 => ?_
  first | refine CW.condD rfl (fun ht6 => ?_) (fun ht6 => ?_) | refine CW.condND rfl (fun ht6 => ?_) (fun ht6 => ?_) | refine CW.condN rfl (fun ht6 => ?_) (fun ht6 => ?_) | refine CW.cond rfl (fun ht6 => ?_) (fun ht6 => ?_)
  · -- then
    refine CW.skip ?_
    refine hK5 _ _ ?_; try clear hK5 K5
    refine CW.seq fun K7 hK7 => ?_
    refine CW.block ?_
    refine CW.seq fun K8 hK8 => ?_
    obtain ⟨d, hd⟩ : ∃ d, l[x]? = some d := ⟨_, List.getElem?_eq_getElem (by omega)⟩
    obtain ⟨a, rfl, hma⟩ := hlx _ _ hd
    refine CW.region ?_
    refine WL.val (Y.move rfl) (by decide) ?_
    refine WL.val (Y.assign rfl) (by decide) ?_
    refine WL.nil ?_
    refine hK8 _ _ ?_; try clear hK8 K8
    refine CW.seq fun K9 hK9 => ?_
    refine CW.region ?_
    refine WL.val (Y.move rfl) (by decide) ?_
    refine WL.val (Y.move rfl) (by decide) ?_
    refine WL.val (Y.move rfl) (by decide) ?_
    refine WL.val (Y.indexAddrN Tryd.underlying25 rfl rfl sz0_apiDigest (by omega)) (by decide) ?_
    refine WL.val (Y.load Tryd.underlying48 rfl (hma.ext hE) (sz_apiDigest _) rfl) (by decide) ?_
    refine WL.callV rfl hf hb hn rfl (hC d _ (List.mem_of_getElem? hd) hE) (by simp) ?_; rintro v16 w2 hR2
    obtain ⟨rfl, hx2⟩ := hR2
    have hz2 := hx2.size
    have hE := hE.thenExt hx2
    refine WL.nil ?_
    refine hK9 _ _ ?_; try clear hK9 K9
    first | refine CW.condD rfl (fun ht10 => ?_) (fun ht10 => ?_) | refine CW.condND rfl (fun ht10 => ?_) (fun ht10 => ?_) | refine CW.condN rfl (fun ht10 => ?_) (fun ht10 => ?_) | refine CW.cond rfl (fun ht10 => ?_) (fun ht10 => ?_)
    · -- then
      refine CW.seq fun K11 hK11 => ?_
      refine CW.region ?_
      refine WL.val (Y.move rfl) (by decide) ?_
      refine WL.val (Y.assign rfl) (by decide) ?_
      refine WL.nil ?_
      refine hK11 _ _ ?_; try clear hK11 K11
      refine CW.ret ⟨_, rfl, ?_⟩
      exact ⟨x, rfl, .inr ⟨x, d, rfl, hd, by assumption, hno⟩, hE⟩
    refine CW.skip ?_
    refine hK7 _ _ ?_; try clear hK7 K7
    refine CW.region ?_
    refine WL.val (Y.add rfl rfl ⟨by omega, by omega⟩) (by decide) ?_
    refine WL.val (Y.move rfl) (by decide) ?_
    refine WL.nil ?_
    refine ⟨x + 1, by show m - (x + 1) < m - x; omega, (by repeat (first | exact Fr.le.nil | refine Fr.le.cons rfl ?_)), by show x + 1 ≤ m; omega, ?_, hE⟩
    intro i d2 hi h1
    by_cases e : i < x
    · exact hno i d2 e h1
    · have e2 : i = x := by omega
      subst e2
      rw [hd] at h1; cases h1
      simp_all
  refine CW.exit ?_
  refine hK2 _ _ ?_; try clear hK2 K2
  refine CW.seq fun K12 hK12 => ?_
  refine CW.region ?_
  refine WL.val (Y.assign rfl) (by decide) ?_
  refine WL.nil ?_
  refine hK12 _ _ ?_; try clear hK12 K12
  refine CW.ret ⟨_, rfl, ?_⟩
  refine ⟨-1, rfl, .inl ⟨rfl, fun d hd => ?_⟩, hE⟩
  obtain ⟨j, hj⟩ := List.mem_iff_getElem?.1 hd
  exact hno j d (by have := (List.getElem?_eq_some_iff.1 hj).1; omega) hj
theorem containsFunc_any {f : Nat} {fn : Func} (p : Dig → Bool) (cap : List Value) (u : Value) (l : List Dig) (w : World) (hf : Tryd.prog.funcs[f]? = some fn) (hb : fn.body.isNone = false) (hn : (fn.name == "runtime.NumGoroutine") = false) (hC : ∀ (d : Dig) (w1 : World), d ∈ l → Ext w w1 → Calls Tryd.prog f (digV d :: cap).toArray w1 (Ret fun v w2 => v = .bool (p d) ∧ Ext w1 w2)) (hu : Sl w digC 32 u l) : Calls Tryd.prog 48 #[u, .func (.func f) #[] cap.toArray] w (Ret fun v w' => v = .bool (l.any p) ∧ Ext w w') := by
  refine calls_of_CW 9 [4] [(0, u), (1, .func (.func f) #[] cap.toArray)] Tryd.func48 rfl rfl rfl (by simp) args2 ?_
  have hE : Ext w w := Chg.refl
  refine CW.seq fun K1 hK1 => ?_
  refine CW.region ?_
  refine WL.val (Y.assign rfl) (by decide) ?_
  refine WL.nil ?_
  refine hK1 _ _ ?_; try clear hK1 K1
  refine CW.seq fun K2 hK2 => ?_
  refine CW.region ?_
  refine WL.val (Y.move rfl) (by decide) ?_
  refine WL.val (Y.move rfl) (by decide) ?_
  refine WL.call Tryd.func60 rfl rfl rfl (indexFunc_any p cap u l _ hf hb hn hC hu) (by simp) ?_; rintro v7 w1 hR1
  obtain ⟨k, rfl, hk, hx1⟩ := hR1
  have hz1 := hx1.size
  have hE := hE.thenExt hx1
  refine WL.val (Y.geq rfl rfl) (by decide) ?_
  refine WL.val (Y.assign rfl) (by decide) ?_
  refine WL.nil ?_
  refine hK2 _ _ ?_; try clear hK2 K2
  refine CW.ret ⟨_, rfl, ?_⟩
  refine ⟨?_, hE⟩
  rcases hk with ⟨rfl, hno⟩ | ⟨j, d, rfl, hd, hp, _⟩
  · have e : l.any p = false := List.any_eq_false.2 fun d hd => by simp [hno d hd]
    rw [e]; rfl
  · have e : l.any p = true := List.any_eq_true.2 ⟨d, List.mem_of_getElem? hd, hp⟩
    rw [e, decide_eq_true (by omega)]
end Go.Proofs.YtjbeooimhoilmaaDoor
