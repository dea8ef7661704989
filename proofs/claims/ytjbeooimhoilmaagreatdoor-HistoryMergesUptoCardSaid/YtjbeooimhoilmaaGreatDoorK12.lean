/- Parts of a proof: what its last text leans on. No condition. -/
import Derived.Test.YtjbeooimhoilmaaGreatDoorK10
import Derived.Test.YtjbeooimhoilmaaGreatDoorK11
set_option linter.unusedSimpArgs false
set_option linter.unusedVariables false
/- Several texts as one: Gd, Ge, Gf, Gg, Gh. -/
/- Marks over a graph, as both sides make them; what a look at a graph is in memory. No condition. -/
namespace Go.Pl
open Go.Fw
def ixN (l : List Nd) (d : Dig) : Nat := (idsL l).idxOf d
def setAll (l : List Nd) (S : List Bool) (ds : List Dig) : List Bool := ds.foldl (fun S d => S.set (ixN l d) true) S
def mark0 (l : List Nd) (ids : List Dig) : List Bool := setAll l (List.replicate l.length false) ids
def upd (l : List Nd) (S : List Bool) (i : Nat) : List Bool := match l[i]? with
 | some n => if S[i]? = some true then setAll l S n.ps else S
 | none => S
def markD (l : List Nd) : Nat → List Bool → List Bool
 | 0, S => S
 | i + 1, S => markD l i (upd l S i)
def markF (l : List Nd) (ids : List Dig) : List Bool := markD l l.length (mark0 l ids)
def reachD (l : List Nd) : Nat → List Bool → List Nat
 | 0, _ => []
 | i + 1, S => if S[i]? = some true then i :: reachD l i (upd l S i) else reachD l i S
def reachL (l : List Nd) (ids : List Dig) : List Nat := reachD l l.length (mark0 l ids)
theorem setAll_length {l : List Nd} : ∀ {ds : List Dig} {S : List Bool}, (setAll l S ds).length = S.length
 | [], _ => rfl
 | d :: ds, S => by
  have := setAll_length (l := l) (ds := ds) (S := S.set (ixN l d) true)
  rw [List.length_set] at this
  exact this
theorem setAll_app {l : List Nd} {S : List Bool} {ds : List Dig} {d : Dig} : setAll l S (ds ++ [d]) = (setAll l S ds).set (ixN l d) true := by simp [setAll, List.foldl_append]
theorem mark0_length {l : List Nd} {ids : List Dig} : (mark0 l ids).length = l.length := by rw [mark0, setAll_length, List.length_replicate]
theorem upd_length {l : List Nd} {S : List Bool} {i : Nat} : (upd l S i).length = S.length := by
 unfold upd
 split
 ·
  split
  ·
   exact setAll_length
  ·
   rfl
 ·
  rfl
theorem upd_no {l : List Nd} {S : List Bool} {i : Nat} (h : S[i]? ≠ some true) : upd l S i = S := by
 unfold upd
 split
 ·
  rw [if_neg h]
 ·
  rfl
theorem upd_yes {l : List Nd} {S : List Bool} {i : Nat} {n : Nd} (hn : l[i]? = some n) (h : S[i]? = some true) : upd l S i = setAll l S n.ps := by
 unfold upd
 rw [hn]
 simp only
 rw [if_pos h]
theorem fwrong_nil : ∀ {l : List Nd} {a : List Dig} {i : Nat}, (fwrong l a i).2 = 0 → ∀ (j : Nat) (n : Nd), l[j]? = some n → wrongE (a ++ idsL (l.take j)) n = 0
 | [], _, _, _, j, n, h => by simp at h
 | x :: r, a, i, h, j, n, hn => by
  rw [fwrong] at h
  split at h
  ·
   rename_i hx
   cases j with
   | zero => simp at hn; subst hn; simpa using hx
   | succ j =>
    have := fwrong_nil (l := r) h j n (by simpa using hn)
    simpa [idsL] using this
  ·
   rename_i hx; exact absurd h hx
theorem ok_len {l : List Nd} (h : (readE l).2 = 0) : l.length ≤ 200 := by
 unfold readE at h
 split at h
 ·
  simp at h
 ·
  omega
theorem ok_at {l : List Nd} (h : (readE l).2 = 0) {i : Nat} {n : Nd} (hi : l[i]? = some n) : wrongE (idsL (l.take i)) n = 0 := by
 have hl := ok_len h
 rw [readE, if_neg (by omega)] at h
 simpa using fwrong_nil h i n hi
theorem ok_par {l : List Nd} (h : (readE l).2 = 0) {i : Nat} {n : Nd} (hi : l[i]? = some n) {p : Dig} (hp : p ∈ n.ps) : p ∈ idsL (l.take i) := (wrong_ok (ok_at h hi)).2.2.2 p hp
theorem mem_idsTake {l : List Nd} {i : Nat} {p : Dig} (h : p ∈ idsL (l.take i)) : p ∈ idsL l := by
 obtain ⟨n, hn, he⟩ := List.mem_map.1 h
 exact List.mem_map.2 ⟨n, List.mem_of_mem_take hn, he⟩
theorem ixN_lt {l : List Nd} {d : Dig} (h : d ∈ idsL l) : ixN l d < l.length := by
 have := List.idxOf_lt_length_iff.2 h
 simpa [ixN] using this
theorem reachD_lt {l : List Nd} : ∀ {k : Nat} {S : List Bool} {x : Nat}, x ∈ reachD l k S → x < k
 | 0, _, _, h => by cases h
 | k + 1, S, x, h => by
  rw [reachD] at h
  split at h
  ·
   rcases List.mem_cons.1 h with h | h
   ·
    omega
   ·
    have := reachD_lt h; omega
  ·
   have := reachD_lt h; omega
theorem placed_ix {l : List Nd} {d : Dig} (h : d ∈ idsL l) : ∃ j, mfind Prod.fst d (placed (idsL l)) 0 = some (j, (d, ixN l d)) := by
 cases hf : mfind Prod.fst d (placed (idsL l)) 0 with
 | none =>
  have := placed_isSome (d := d) (ids := idsL l) (k := 0) (i := 0)
  rw [show (idsL l).zipIdx 0 = placed (idsL l) from rfl, hf] at this
  simp [h] at this
 | some p =>
  obtain ⟨j, e⟩ := p
  obtain ⟨h1, h2, h3, h4⟩ := placed_some (k := 0) hf
  refine ⟨j, ?_⟩
  simp only [Nat.sub_zero] at h2 h4
  have h5 := findI_at (i := e.2) h2 h4
  rw [findI, if_pos h] at h5
  have h6 : ixN l d = e.2 := by unfold ixN; omega
  rw [← h1, h1, h6]
  have : e = (d, e.2) := by rw [← h1]
  rw [this]
end Go.Pl
namespace Go.Fw
section
variable {w : World} {a : Addr} {v0 v1 v2 : Value}
theorem Mem.graphlook0 (h : Mem w a [v0, v1, v2]) : w.cell? (a.add 0) = some v0 := h.cell 0 rfl
theorem Mem.graphlook1 (h : Mem w a [v0, v1, v2]) : w.cell? (a.add 1) = some v1 := h.cell 1 rfl
end
end Go.Fw
namespace Go.Proofs.YtjbeooimhoilmaaGreatDoor
open Go.RowKit Go.Fw Go.Pl
abbrev TLk : TypeId := 106
abbrev TBo : TypeId := 4
structure LookAt (w0 w : World) (gk r sb : Nat) (u : Value) (l : List NdV) (S : List Bool) : Prop where
 nds : Nds w0 u l
 old : Ext w0 w
 new : w0.heap.size ≤ gk ∧ w0.heap.size ≤ r ∧ w0.heap.size ≤ sb
 ne : gk ≠ r ∧ gk ≠ sb ∧ r ≠ sb
 blk : Blk w gk TLk [u, .map (some r), .slice (some ⟨sb, 0, none⟩) l.length l.length]
 map : MapAt w r pme (placed (idsL (ndsL l))) l.length
 seen : Blk w sb TBo (boolC S)
 len : S.length = l.length
 ok : (readE (ndsL l)).2 = 0
section
variable {w0 w w' : World} {gk r sb : Nat} {u : Value} {l : List NdV} {S S' : List Bool} {T : Nat → Prop}
theorem LookAt.lt (h : LookAt w0 w gk r sb u l S) : gk < w.heap.size ∧ r < w.heap.size ∧ sb < w.heap.size := ⟨h.blk.lt, h.map.lt, h.seen.lt⟩
theorem LookAt.chg (h : LookAt w0 w gk r sb u l S) (hc : Chg T w w') (h1 : ¬ T gk) (h2 : ¬ T r) (h3 : ¬ T sb) (h4 : ∀ k, T k → w0.heap.size ≤ k) : LookAt w0 w' gk r sb u l S :=
 ⟨h.nds, h.old.step hc h4, h.new, h.ne, h.blk.chg hc h1, h.map.chg hc h2, h.seen.chg hc h3, h.len, h.ok⟩
theorem LookAt.ext (h : LookAt w0 w gk r sb u l S) (hc : Ext w w') : LookAt w0 w' gk r sb u l S := h.chg hc (fun f => f) (fun f => f) (fun f => f) (fun _ f => f.elim)
end
end Go.Proofs.YtjbeooimhoilmaaGreatDoor
/- A look at a graph begun, gone over, marked: begin, reach and its closure, marks, walked. No condition. -/
namespace Go.Proofs.YtjbeooimhoilmaaGreatDoor
open Go.RowKit Go.Fw Go.Pl
theorem info_boolT : ∃ i : TypeInfo, Tryz.prog.info? TBo = some i ∧ i.zero = some (.bool false) ∧ i.size = 1 ∧ i.bytes = 1 := by
 have h : (Tryz.prog.info? TBo).map (fun i => (i.zero, i.size, i.bytes)) = some (some (.bool false), 1, 1) := by kernel_rfl
 cases hi : Tryz.prog.info? TBo with
 | none => simp [hi] at h
 | some i => simp [hi] at h; exact ⟨i, rfl, h.1, h.2.1, h.2.2⟩
abbrev sz0_bool := @sz_bool
theorem sz0_sDigest : (Tryz.prog.info? 24).map (·.size) = some 1 := by kernel_rfl
abbrev sz0_sapiDigest := @sz0_sDigest
theorem fo_graphlook0 : FieldOff Tryz.prog TLk 0 0 := ⟨_, _, 1, Tryz.underlying106, rfl, by kernel_rfl, by decide, rfl⟩
theorem fo_graphlook1 : FieldOff Tryz.prog TLk 1 1 := ⟨_, _, 1, Tryz.underlying106, rfl, by kernel_rfl, by decide, rfl⟩
theorem build_look (A : Option Addr) (n c r sb : Nat) (w : World) : (Instr.build TLk [(0, .slice A n c), (1, .map (some r)), (2, .slice (some ⟨sb, 0, none⟩) n n)].toArray).run Tryz.prog w = .ok (.agg #[.slice A n c, .map (some r), .slice (some ⟨sb, 0, none⟩) n n]) w := run_build w _ _ _ (by kernel_rfl)
theorem gbegin_any (u v0 : Value) (l : List NdV) (ds : List (Value × List Dig)) (w : World) (hl : Nds w u l) (hd : Sl w (fun x : Value × List Dig => [x.1]) 1 v0 ds) (hdd : ∀ x ∈ ds, Sl w digC 32 x.1 x.2) : Calls Tryz.prog 38 #[u, v0] w (Ret fun v w' => ∃ p, v = .tuple #[.pointer p, .int .i64 (wrongQ (ndsL l) (ds.map Prod.snd).flatten)] ∧ Ext w w' ∧ (wrongQ (ndsL l) (ds.map Prod.snd).flatten = 0 → ∃ gk r sb, p = some ⟨gk, 0, none⟩ ∧ LookAt w w' gk r sb u l (List.replicate l.length false))) := by
 have hl0 := hl
 obtain ⟨A, c, rfl, hmc, hcm⟩ := hl.sl.lens
 obtain ⟨A1, m1, c1, rfl, hdm, hdc, hdx, hdg⟩ := hd
 unfold maxLen at hcm hdx
 obtain ⟨bi, hbi, hbz, hbs, hbb⟩ := info_boolT
 refine calls_of_CW 53 [4, 5] [(0, .slice A l.length c), (1, .slice A1 m1 c1)] Tryz.func38 rfl rfl rfl (by simp) args2 ?_
 have hE : Ext w w := Chg.refl
 refine CW.sr fun K1 hK1 => ?_
 refine WL.a rfl ?_
 refine WL.a rfl ?_
 refine WL.nil (hK1 _ _ ?_); try clear hK1 K1
 refine CW.sr fun K2 hK2 => ?_
 refine WL.m rfl ?_
 refine WL.call Tryz.func60 rfl rfl rfl (gread_any _ l _ hl0) (by simp) ?_; rintro v17 w1 hR1
 obtain ⟨mv, rfl, hmv, hx1⟩ := hR1
 have hz1 := hx1.size
 have hE := hE.thenExt hx1
 refine WL.m rfl ?_
 refine WL.v (Y.extract rfl rfl) ?_
 refine WL.v (Y.extract rfl rfl) ?_
 refine WL.v (Y.extract rfl rfl) ?_
 refine WL.a rfl ?_
 refine WL.a rfl ?_
 refine WL.a rfl ?_
 refine WL.nil (hK2 _ _ ?_); try clear hK2 K2
 refine CW.seq fun K3 hK3 => ?_
 refine CW.sr fun K4 hK4 => ?_
 refine WL.m rfl ?_
 refine WL.v (Y.neq rfl rfl) ?_
 refine WL.nil (hK4 _ _ ?_); try clear hK4 K4
 (first | refine CW.condD rfl ?_ ?_ | refine CW.condND rfl ?_ ?_ | refine CW.condN rfl ?_ ?_ | refine CW.cond rfl ?_ ?_) <;> intro ht5
 ·
  -- then
  refine CW.sr fun K6 hK6 => ?_
  refine WL.m rfl ?_
  refine WL.a rfl ?_
  refine WL.a rfl ?_
  refine WL.nil (hK6 _ _ ?_); try clear hK6 K6
  refine CW.ret ⟨_, rfl, ?_⟩
  have he : wrongQ (ndsL l) (ds.map Prod.snd).flatten = (readE (ndsL l)).2 := by rw [wrongQ, if_pos (by assumption)]
  exact ⟨_, by rw [he]; rfl, hE, fun h => by rw [he] at h; exact absurd h (by assumption)⟩
 refine CW.skip ?_
 refine hK3 _ _ ?_; try clear hK3 K3
 refine CW.seq fun K7 hK7 => ?_
 refine CW.seq fun K8 hK8 => ?_
 have hok : (readE (ndsL l)).2 = 0 := Decidable.not_not.1 (by assumption)
 obtain ⟨r, rfl, hr, hM⟩ := hmv hok
 have hln := ok_len hok
 rw [List.length_map] at hln
 refine CW.region ?_
 refine WL.m rfl ?_
 refine WL.v (Y.len_slice Tryz.underlying128 rfl) ?_
 refine WL.m rfl ?_
 refine WL.nil (hK8 _ _ ?_); try clear hK8 K8
 refine CW.block ?_
 refine CW.loop (X := Nat) (fun x => [(0, .slice A l.length c), (6, .map (some r)), (24, .slice A1 m1 c1), (25, .int .i64 (m1 : Int)), (26, .int .i64 (x : Int))]) (fun x w0 => x ≤ m1 ∧ (∀ i y d, i < x → ds[i]? = some y → d ∈ y.2 → d ∈ idsL (ndsL l)) ∧ Ext w w0 ∧ MapAt w0 r pme (placed (idsL (ndsL l))) l.length) (fun x => m1 - x) 0 Fr.ok ⟨Nat.zero_le _, (fun i y d h => by omega), hE, hM⟩ ?_
 intro x w2 hl2
 obtain ⟨i, rfl⟩ : ∃ i, i = x := ⟨x, rfl⟩
 obtain ⟨hxm, hin, hE, hM⟩ := hl2
 refine CW.sr fun K9 hK9 => ?_
 refine WL.v (Y.lss rfl rfl) ?_
 refine WL.nil (hK9 _ _ ?_); try clear hK9 K9
 refine CW.seq fun K10 hK10 => ?_
 (first | refine CW.condD rfl ?_ ?_ | refine CW.condND rfl ?_ ?_ | refine CW.condN rfl ?_ ?_ | refine CW.cond rfl ?_ ?_) <;> intro ht11
 ·
  -- then
  refine CW.skip ?_
  refine hK10 _ _ ?_; try clear hK10 K10
  refine CW.seq fun K12 hK12 => ?_
  refine CW.block ?_
  refine CW.seq fun K13 hK13 => ?_
  obtain ⟨⟨dv, dl⟩, hy⟩ : ∃ y, ds[i]? = some y := ⟨_, List.getElem?_eq_getElem (by omega)⟩
  obtain ⟨a, rfl, hma⟩ := hdg _ _ hy
  have hdl := hdd _ (List.mem_of_getElem? hy)
  dsimp only at hdl hma
  obtain ⟨A2, c2, rfl, hdl2, hdl3⟩ := hdl.lens
  unfold maxLen at hdl3
  refine CW.region ?_
  refine WL.v (Y.indexAddrN Tryz.underlying128 rfl rfl sz0_sapiDigest (by omega)) ?_
  refine WL.v (Y.load1 Tryz.underlying24 rfl ((hma.ext hE).cell0) rfl) ?_
  refine WL.a rfl ?_
  refine WL.nil (hK13 _ _ ?_); try clear hK13 K13
  refine CW.sr fun K14 hK14 => ?_
  refine WL.m rfl ?_
  refine WL.v (Y.len_slice Tryz.underlying24 rfl) ?_
  refine WL.m rfl ?_
  refine WL.nil (hK14 _ _ ?_); try clear hK14 K14
  refine CW.block ?_
  refine CW.loop (X := Nat) (fun x => [(0, .slice A l.length c), (6, .map (some r)), (24, .slice (some a) m1 c1), (25, .int .i64 (m1 : Int)), (26, .int .i64 (i : Int)), (30, .slice A2 dl.length c2), (31, .int .i64 (dl.length : Int)), (32, .int .i64 (x : Int))]) (fun x w0 => x ≤ dl.length ∧ (∀ j d, j < x → dl[j]? = some d → d ∈ idsL (ndsL l)) ∧ Ext w w0 ∧ MapAt w0 r pme (placed (idsL (ndsL l))) l.length) (fun x => dl.length - x) 0 Fr.ok ⟨Nat.zero_le _, (fun j d h => by omega), hE, hM⟩ ?_
  intro x w3 hl3
  obtain ⟨hzm, hin2, hE, hM⟩ := hl3
  refine CW.sr fun K15 hK15 => ?_
  refine WL.v (Y.lss rfl rfl) ?_
  refine WL.nil (hK15 _ _ ?_); try clear hK15 K15
  refine CW.seq fun K16 hK16 => ?_
  (first | refine CW.condD rfl ?_ ?_ | refine CW.condND rfl ?_ ?_ | refine CW.condN rfl ?_ ?_ | refine CW.cond rfl ?_ ?_) <;> intro ht17
  ·
   -- then
   refine CW.skip ?_
   refine hK16 _ _ ?_; try clear hK16 K16
   refine CW.seq fun K18 hK18 => ?_
   refine CW.block ?_
   refine CW.seq fun K19 hK19 => ?_
   obtain ⟨d, hd⟩ : ∃ d, dl[x]? = some d := ⟨_, List.getElem?_eq_getElem (by omega)⟩
   obtain ⟨b, rfl, hmb⟩ := hdl.at hd
   refine CW.region ?_
   refine WL.v (Y.indexAddrN Tryz.underlying24 rfl rfl sz0_apiDigest (by omega)) ?_
   refine WL.v (Y.load Tryz.underlying43 rfl (hmb.ext hE) (sz_apiDigest _) rfl) ?_
   refine as_apiDigest rfl (by simp) (by decide) fun g12 w4 hx4 hg12 hB12 => ?_
   have hlt12 := hB12.lt; have hz4 := hx4.size
   have hM12 := hB12.mem; have hz4 := hx4.size; have hE := hE.thenExt hx4
   refine WL.nil (hK19 _ _ ?_); try clear hK19 K19
   refine CW.sr fun K20 hK20 => ?_
   refine WL.m rfl ?_
   refine WL.v (Y.load Tryz.underlying43 rfl hB12.mem (sz_apiDigest _) rfl) ?_
   refine WL.v (Y.lookupOk keyDig (fun _ => rfl) Tryz.underlying72 zero_int rfl rfl (hM.ext hx4)) ?_
   refine WL.m rfl ?_
   refine WL.v (Y.extract rfl rfl) ?_
   refine WL.v (Y.extract rfl rfl) ?_
   refine WL.a rfl ?_
   refine WL.a rfl ?_
   refine WL.nil (hK20 _ _ ?_); try clear hK20 K20
   refine CW.sr fun K21 hK21 => ?_
   refine WL.m rfl ?_
   refine WL.v (Y.not rfl) ?_
   refine WL.nil (hK21 _ _ ?_); try clear hK21 K21
   (first | refine CW.condD rfl ?_ ?_ | refine CW.condND rfl ?_ ?_ | refine CW.condN rfl ?_ ?_ | refine CW.cond rfl ?_ ?_) <;> intro ht22
   ·
    -- then
    refine CW.sr fun K23 hK23 => ?_
    refine WL.a rfl ?_
    refine WL.a rfl ?_
    refine WL.nil (hK23 _ _ ?_); try clear hK23 K23
    refine CW.ret ⟨_, rfl, ?_⟩
    have hnd : ¬ d ∈ idsL (ndsL l) := fun h => by
     have h9 := ht22
     rw [placed_isSome] at h9
     simp_all
    have he : wrongQ (ndsL l) (ds.map Prod.snd).flatten = 5 := by
     rw [wrongQ, if_neg (by rw [hok]; decide), if_pos ⟨d, List.mem_flatten.2 ⟨dl, List.mem_map.2 ⟨_, List.mem_of_getElem? hy, rfl⟩, List.mem_of_getElem? hd⟩, hnd⟩]
    exact ⟨_, by rw [he], hE, fun h => by rw [he] at h; simp at h⟩
   refine CW.skip ?_
   refine hK18 _ _ ?_; try clear hK18 K18
   refine CW.region ?_
   refine WL.v (Y.add rfl rfl ⟨by omega, by omega⟩) ?_
   refine WL.m rfl ?_
   refine WL.nil ?_
   refine ⟨x + 1, by show dl.length - (x + 1) < dl.length - x; omega, Fr.ok, by show x + 1 ≤ dl.length; omega, ?_, hE, hM.ext hx4⟩
   intro j d2 hj h1
   by_cases e : j < x
   ·
    exact hin2 j d2 e h1
   ·
    have e2 : j = x := by omega
    subst e2
    rw [hd] at h1; cases h1
    have h9 := ht22
    rw [placed_isSome] at h9
    simpa using h9
  refine CW.exit ?_
  refine hK12 _ _ ?_; try clear hK12 K12
  refine CW.region ?_
  refine WL.v (Y.add rfl rfl ⟨by omega, by omega⟩) ?_
  refine WL.m rfl ?_
  refine WL.nil ?_
  refine ⟨i + 1, by show m1 - (i + 1) < m1 - i; omega, Fr.ok, by show i + 1 ≤ m1; omega, ?_, hE, hM⟩
  intro j y2 d2 hj hy2 hd2
  by_cases e : j < i
  ·
   exact hin j y2 d2 e hy2 hd2
  ·
   have e2 : j = i := by omega
   subst e2
   rw [hy] at hy2; cases hy2
   obtain ⟨k, hk⟩ := List.mem_iff_getElem?.1 hd2
   have hk : dl[k]? = some d2 := hk
   exact hin2 k d2 (by have := (List.getElem?_eq_some_iff.1 hk).1; omega) hk
 refine CW.exit ?_
 refine hK7 _ _ ?_; try clear hK7 K7
 refine CW.sr fun K24 hK24 => ?_
 refine WL.m rfl ?_
 refine WL.m rfl ?_
 refine WL.m rfl ?_
 refine WL.v (Y.len_slice Tryz.underlying37 rfl) ?_
 refine WL.st (St.makeB Tryz.underlying81 hbi hbz hbs hbb rfl rfl (by omega)) (by decide) fun v50 w5 hR5 => ?_
 obtain ⟨sb, rfl, hsb, hBs, hx5⟩ := hR5
 have hz5 := hx5.size
 have hE := hE.thenExt hx5
 have hlt5 := hBs.lt
 have hltM := hM.lt
 have hM := hM.ext hx5
 refine WL.v (Y.build rfl (build_look _ _ _ _ _ _)) ?_
 refine WL.box rfl rfl (by decide) fun g52 w6 hx6 hg52 hB52 => ?_
 have hlt52 := hB52.lt; have hz6 := hx6.size
 have hM52 := hB52.mem; have hz6 := hx6.size; have hE := hE.thenExt hx6
 refine WL.a rfl ?_
 refine WL.a rfl ?_
 refine WL.nil (hK24 _ _ ?_); try clear hK24 K24
 refine CW.ret ⟨_, rfl, ?_⟩
 have he : wrongQ (ndsL l) (ds.map Prod.snd).flatten = 0 := by
  rw [wrongQ, if_neg (by rw [hok]; decide), if_neg]
  rintro ⟨d, hdm2, hn⟩
  obtain ⟨dl, h1, h2⟩ := List.mem_flatten.1 hdm2
  obtain ⟨y, h3, h4⟩ := List.mem_map.1 h1
  obtain ⟨j, hj⟩ := List.mem_iff_getElem?.1 h3
  exact hn (hin j y d (by have := (List.getElem?_eq_some_iff.1 hj).1; omega) hj (h4 ▸ h2))
 exact ⟨_, by rw [he], hE, fun _ => ⟨g52, r, sb, rfl, hl0, hE, ⟨by omega, by omega, by omega⟩, ⟨by omega, by omega, by omega⟩, hB52, hM.ext hx6, hBs.ext hx6, by simp, hok⟩⟩
end Go.Proofs.YtjbeooimhoilmaaGreatDoor
/- A look at a graph gone over: reach and its closure, walked: what the iterator promises. No condition. -/
namespace Go.Proofs.YtjbeooimhoilmaaGreatDoor
open Go.RowKit Go.Fw Go.Pl
abbrev TSd : TypeId := 24
end Go.Proofs.YtjbeooimhoilmaaGreatDoor
/- A look's marks, walked. No condition. -/
namespace Go.Proofs.YtjbeooimhoilmaaGreatDoor
open Go.RowKit Go.Fw Go.Pl
end Go.Proofs.YtjbeooimhoilmaaGreatDoor
/- Closures over a look's marks; slices.IndexFunc, ContainsFunc at digests, walked. No condition. -/
namespace Go.Pl
open Go.Fw
def bitAt (S : List Bool) (l : List Nd) (d : Dig) : Bool := S[ixN l d]?.getD false
end Go.Pl
namespace Go.Proofs.YtjbeooimhoilmaaGreatDoor
open Go.RowKit Go.Fw Go.Pl
end Go.Proofs.YtjbeooimhoilmaaGreatDoor
/- Several texts as one: Gi, Gj, Gk, Gl, Gm. -/
/- The heads of marked nodes, walked. No condition. -/
namespace Go.Pl
open Go.Fw
def headsD (l : List Nd) (In : List Bool) : Nat → List Bool → List Dig → List Dig
 | 0, _, out => out
 | i + 1, U, out => match l[i]? with
  | some n => headsD l In i (if In[i]? = some true ∨ U[i]? = some true then setAll l U n.ps else U) (if In[i]? = some true ∧ ¬ U[i]? = some true then out ++ [n.id] else out)
  | none => headsD l In i U out
def headsL (l : List Nd) (In : List Bool) : List Dig := sortedD (headsD l In l.length (List.replicate l.length false) [])
theorem headsD_at {l : List Nd} {In U : List Bool} {out : List Dig} {i : Nat} {n : Nd} (h : l[i]? = some n) : headsD l In (i + 1) U out = headsD l In i (if In[i]? = some true ∨ U[i]? = some true then setAll l U n.ps else U) (if In[i]? = some true ∧ ¬ U[i]? = some true then out ++ [n.id] else out) := by
 rw [headsD, h]
end Go.Pl
namespace Go.Proofs.YtjbeooimhoilmaaGreatDoor
open Go.RowKit Go.Fw Go.Pl Go.Sort
set_option maxRecDepth 100000 in
set_option maxHeartbeats 2000000 in
theorem gheads_any (wb w : World) (gk r sb b : Nat) (u : Value) (l : List NdV) (S0 In : List Bool) (hK : LookAt wb w gk r sb u l S0) (hIn : Blk w b TBo (boolC In)) (hil : In.length = l.length) : Calls Tryz.prog 39 #[.pointer (some ⟨gk, 0, none⟩), .slice (some ⟨b, 0, none⟩) l.length l.length] w (Ret fun v w' => Own w' TDg 32 v (flatD (headsL (ndsL l) In)) ∧ (∀ k, v.ownBlock = some k → w.heap.size ≤ k) ∧ Ext w w') := by
 have hK0 := hK
 have hIn0 := hIn
 obtain ⟨A, c, rfl, hmc, hcm⟩ := hK.nds.sl.lens
 unfold maxLen at hcm
 have hln := ok_len hK.ok
 have hnl : (ndsL l).length = l.length := by simp
 have hltK := hK.lt
 have hzK := hK.old.size
 obtain ⟨bi, hbi, hbz, hbs, hbb⟩ := info_boolT
 refine calls_of_CW 83 [4] [(0, .pointer (some ⟨gk, 0, none⟩)), (1, .slice (some ⟨b, 0, none⟩) l.length l.length)] Tryz.func39 rfl rfl rfl (by simp) args2 ?_
 have hE : Ext w w := Chg.refl
 refine CW.sr fun K1 hK1 => ?_
 refine WL.a rfl ?_
 refine WL.nil (hK1 _ _ ?_); try clear hK1 K1
 refine CW.sr fun K2 hK2 => ?_
 refine WL.m rfl ?_
 refine WL.v (Y.nilCheck rfl) ?_
 refine WL.v (Y.fieldAddr fo_graphlook0 rfl) ?_
 refine WL.v (Y.load1 Tryz.underlying37 rfl hK.blk.mem.graphlook0 rfl) ?_
 refine WL.v (Y.len_slice Tryz.underlying37 rfl) ?_
 refine WL.st (St.makeB Tryz.underlying81 hbi hbz hbs hbb rfl rfl (by omega)) (by decide) fun v15 w1 hR1 => ?_
 obtain ⟨ub, rfl, hub, hU, hx1⟩ := hR1
 have hz1 := hx1.size
 have hE := hE.thenExt hx1
 have hK := hK.ext hx1
 have hltu := hU.lt
 refine WL.a rfl ?_
 refine WL.nil (hK2 _ _ ?_); try clear hK2 K2
 refine CW.sr fun K3 hK3 => ?_
 refine WL.a rfl ?_
 refine WL.nil (hK3 _ _ ?_); try clear hK3 K3
 refine CW.seq fun K4 hK4 => ?_
 refine CW.sr fun K5 hK5 => ?_
 refine WL.m rfl ?_
 refine WL.v (Y.nilCheck rfl) ?_
 refine WL.v (Y.fieldAddr fo_graphlook0 rfl) ?_
 refine WL.v (Y.load1 Tryz.underlying37 rfl hK.blk.mem.graphlook0 rfl) ?_
 refine WL.v (Y.len_slice Tryz.underlying37 rfl) ?_
 refine WL.v (Y.sub rfl rfl ⟨by omega, by omega⟩) ?_
 refine WL.a rfl ?_
 refine WL.nil (hK5 _ _ ?_); try clear hK5 K5
 refine CW.block ?_
 refine CW.loop (X := Nat × List Bool × Value × List Dig) (fun x => [(0, .pointer (some ⟨gk, 0, none⟩)), (1, .slice (some ⟨b, 0, none⟩) l.length l.length), (5, .slice (some ⟨ub, 0, none⟩) l.length l.length), (6, x.2.2.1), (7, .int .i64 ((x.1 : Int) - 1))]) (fun x w0 => x.1 ≤ l.length ∧ Blk w0 ub TBo (boolC x.2.1) ∧ x.2.1.length = l.length ∧ Own w0 TDg 32 x.2.2.1 (flatD x.2.2.2) ∧ (∀ k, x.2.2.1.ownBlock = some k → w1.heap.size ≤ k) ∧ x.2.2.2.length ≤ l.length - x.1 ∧ headsD (ndsL l) In l.length (List.replicate l.length false) [] = headsD (ndsL l) In x.1 x.2.1 x.2.2.2 ∧ Ext w w0 ∧ w1.heap.size ≤ w0.heap.size) (fun x => x.1) (l.length, List.replicate l.length false, .slice none 0 0, []) Fr.ok ⟨Nat.le_refl _, hU, by simp, Own.nil, (fun k h => by simp [Value.ownBlock] at h), Nat.zero_le _, rfl, hE, Nat.le_refl _⟩ ?_
 intro x w2 hl2
 clear hE hK hU
 obtain ⟨k, U, v, out⟩ := x
 dsimp only at hl2 ⊢
 obtain ⟨hkl, hU, hUl, hO, hfu, hol, hh, hE, hz2⟩ := hl2
 have hK := hK0.ext hE
 have hIn := hIn0.ext hE
 obtain ⟨B, mb, cb, rfl⟩ := hO.lens
 have hlo := hO.lt
 refine CW.seq fun K6 hK6 => ?_
 refine CW.sr fun K7 hK7 => ?_
 refine WL.m rfl ?_
 refine WL.v (Y.geq rfl rfl) ?_
 refine WL.nil (hK7 _ _ ?_); try clear hK7 K7
 (first | refine CW.condD rfl ?_ ?_ | refine CW.condND rfl ?_ ?_ | refine CW.condN rfl ?_ ?_ | refine CW.cond rfl ?_ ?_) <;> intro ht8
 ·
  -- then
  refine CW.skip ?_
  refine hK6 _ _ ?_; try clear hK6 K6
  obtain ⟨i, rfl⟩ : ∃ i, k = i + 1 := ⟨k - 1, by omega⟩
  rw [show (((i + 1 : Nat) : Int) - 1) = (i : Int) by omega]
  obtain ⟨y, hy⟩ : ∃ y, l[i]? = some y := ⟨_, List.getElem?_eq_getElem (by omega)⟩
  obtain ⟨⟨id, ps⟩, Ay, cy⟩ := y
  have hyn : (ndsL l)[i]? = some ⟨id, ps⟩ := by simp [hy]
  obtain ⟨ci, hci⟩ : ∃ c, In[i]? = some c := ⟨_, List.getElem?_eq_getElem (by omega)⟩
  obtain ⟨cu, hcu⟩ : ∃ c, U[i]? = some c := ⟨_, List.getElem?_eq_getElem (by omega)⟩
  obtain ⟨a, rfl, hma⟩ := hK0.nds.sl.at hy
  have hps0 := hK0.nds.ps _ (List.mem_of_getElem? hy)
  dsimp only [NdV.pv] at hps0
  have hps1 := hps0
  obtain ⟨_, _, _, he_, _, hcy, hcy2, _⟩ := hps1
  cases he_
  unfold maxLen at hcy2
  refine CW.seq_to (X := Value) (fun u => [(0, .pointer (some ⟨gk, 0, none⟩)), (1, .slice (some ⟨b, 0, none⟩) l.length l.length), (5, .slice (some ⟨ub, 0, none⟩) l.length l.length), (6, u), (7, .int .i64 (i : Int))]) (fun u w0 => Blk w0 ub TBo (boolC (if ci = true ∨ cu = true then setAll (ndsL l) U ps else U)) ∧ Own w0 TDg 32 u (flatD (if ci = true ∧ ¬ cu = true then out ++ [id] else out)) ∧ (∀ k, u.ownBlock = some k → w1.heap.size ≤ k) ∧ Ext w w0 ∧ w1.heap.size ≤ w0.heap.size) ?_ ?_
  ·
   skip
   refine CW.block ?_
   refine CW.seq_to (X := Value) (fun u => [(0, .pointer (some ⟨gk, 0, none⟩)), (1, .slice (some ⟨b, 0, none⟩) l.length l.length), (5, .slice (some ⟨ub, 0, none⟩) l.length l.length), (6, u), (7, .int .i64 (i : Int))]) (fun u w0 => Own w0 TDg 32 u (flatD (if ci = true ∧ ¬ cu = true then out ++ [id] else out)) ∧ (∀ k, u.ownBlock = some k → w1.heap.size ≤ k) ∧ Ext w w0 ∧ Blk w0 ub TBo (boolC U) ∧ w1.heap.size ≤ w0.heap.size) ?_ ?_
   ·
    skip
    refine CW.seq_test 36 (ci = true ∧ ¬ cu = true) ?_ ?_
    ·
     refine CW.region ?_
     refine WL.m rfl ?_
     refine WL.m rfl ?_
     refine WL.v (Y.indexAddrN Tryz.underlying81 rfl rfl sz0_bool (by omega)) ?_
     refine WL.v (Y.load1 Tryz.underlying4 rfl (hIn.bcell hci) rfl) ?_
     refine WL.m rfl ?_
     (first | refine WL.casesD (d := 30) rfl ?_ ?_ | refine WL.casesND (d := 30) rfl ?_ ?_ | refine WL.cases (d := 30) rfl ?_ ?_) <;> intro hg30
     ·
      -- t30 = T
      refine WL.g rfl rfl (Y.move rfl) ?_
      refine WL.g rfl rfl (Y.move rfl) ?_
      refine WL.g rfl rfl (Y.indexAddrN Tryz.underlying81 rfl rfl sz0_bool (by omega)) ?_
      refine WL.g rfl rfl (Y.load1 Tryz.underlying4 rfl (hU.bcell hcu) rfl) ?_
      refine WL.g rfl rfl (Y.not rfl) ?_
      refine WL.v (Y.pick rfl rfl) ?_
      refine WL.nil ⟨⟨_, rfl, ?_⟩, rfl, Fr.okp⟩
      exact tst_ok
     ·
      -- t30 = F
      refine WL.o rfl rfl ?_
      refine WL.o rfl rfl ?_
      refine WL.o rfl rfl ?_
      refine WL.o rfl rfl ?_
      refine WL.o rfl rfl ?_
      refine WL.v (Y.pick rfl rfl) ?_
      refine WL.nil ⟨⟨_, rfl, ?_⟩, rfl, Fr.okp⟩
      exact tst_ok
    (first | refine CW.condD rfl ?_ ?_ | refine CW.condND rfl ?_ ?_ | refine CW.condN rfl ?_ ?_ | refine CW.cond rfl ?_ ?_) <;> intro ht11
    ·
     -- then
     refine CW.region ?_
     refine WL.m rfl ?_
     refine WL.m rfl ?_
     refine WL.v (Y.nilCheck rfl) ?_
     refine WL.v (Y.fieldAddr fo_graphlook0 rfl) ?_
     refine WL.v (Y.load1 Tryz.underlying37 rfl hK.blk.mem.graphlook0 rfl) ?_
     refine WL.m rfl ?_
     refine WL.v (Y.indexAddrN Tryz.underlying37 rfl rfl sz0_apiNode (by omega)) ?_
     refine WL.v (Y.fieldAddr fo_apiNode0 rfl) ?_
     refine WL.v (Y.load Tryz.underlying43 rfl (hma.ext hK.old).node0 (sz_apiDigest _) rfl) ?_
     refine WL.st (St.buildSlice rfl (bs1_dig _)) (by decide) fun v46 w3 hR3 => ?_
     obtain ⟨g46, rfl, hg46, hB46, hx3⟩ := hR3
     have hz3 := hx3.size
     have hE := hE.thenExt hx3
     refine WL.st (St.append Tryz.underlying24 Tryz.underlying24 ai_dig rfl rfl (hO.ext hx3) (Src.one hB46 (digC_length _)) one_digC (by rw [flat_length digC_length]; omega)) (by decide) fun v47 w4 hR4 => ?_
     obtain ⟨hO4, hc4, hf4⟩ := hR4
     have hz4 := hc4.size
     have hE := hE.step hc4 (fun k h => by have := hfu k h; omega)
     have hf4 : ∀ k, v47.ownBlock = some k → w1.heap.size ≤ k := by
      rcases hf4 with h | h
      ·
       intro k hk; rw [h] at hk; exact hfu k hk
      ·
       intro k hk; have := h k hk; omega
     have hU := (hU.ext hx3).chg hc4 (fun h => by have := hfu _ h; omega)
     refine WL.a rfl ?_
     refine WL.nil ?_
     exact ⟨v47, Fr.ok, by rw [if_pos (by assumption)]; simpa [flatD] using hO4, hf4, hE, hU, by omega⟩
    refine CW.skip ?_
    exact ⟨.slice B mb cb, Fr.ok, by rw [if_neg (by assumption)]; exact hO, hfu, hE, hU, by omega⟩
   rintro u w5 hj5
   clear hE hK hU hIn hO hfu
   obtain ⟨hO, hfu, hE, hU, hz5⟩ := hj5
   have hK := hK0.ext hE
   have hIn := hIn0.ext hE
   refine CW.seq_test 57 (ci = true ∨ cu = true) ?_ ?_
   ·
    refine CW.region ?_
    refine WL.m rfl ?_
    refine WL.m rfl ?_
    refine WL.v (Y.indexAddrN Tryz.underlying81 rfl rfl sz0_bool (by omega)) ?_
    refine WL.v (Y.load1 Tryz.underlying4 rfl (hIn.bcell hci) rfl) ?_
    refine WL.m rfl ?_
    (first | refine WL.casesD (d := 52) rfl ?_ ?_ | refine WL.casesND (d := 52) rfl ?_ ?_ | refine WL.cases (d := 52) rfl ?_ ?_) <;> intro hg52
    ·
     -- t52 = T
     refine WL.o rfl rfl ?_
     refine WL.o rfl rfl ?_
     refine WL.o rfl rfl ?_
     refine WL.o rfl rfl ?_
     refine WL.v (Y.pick rfl rfl) ?_
     refine WL.nil ⟨⟨_, rfl, ?_⟩, rfl, Fr.okp⟩
     exact tst_ok
    ·
     -- t52 = F
     refine WL.g rfl rfl (Y.move rfl) ?_
     refine WL.g rfl rfl (Y.move rfl) ?_
     refine WL.g rfl rfl (Y.indexAddrN Tryz.underlying81 rfl rfl sz0_bool (by omega)) ?_
     refine WL.g rfl rfl (Y.load1 Tryz.underlying4 rfl (hU.bcell hcu) rfl) ?_
     refine WL.v (Y.pick rfl rfl) ?_
     refine WL.nil ⟨⟨_, rfl, ?_⟩, rfl, Fr.okp⟩
     exact tst_ok
   (first | refine CW.condD rfl ?_ ?_ | refine CW.condND rfl ?_ ?_ | refine CW.condN rfl ?_ ?_ | refine CW.cond rfl ?_ ?_) <;> intro ht12
   ·
    -- then
    refine CW.sr fun K13 hK13 => ?_
    refine WL.m rfl ?_
    refine WL.v (Y.nilCheck rfl) ?_
    refine WL.v (Y.fieldAddr fo_graphlook0 rfl) ?_
    refine WL.v (Y.load1 Tryz.underlying37 rfl hK.blk.mem.graphlook0 rfl) ?_
    refine WL.m rfl ?_
    refine WL.v (Y.indexAddrN Tryz.underlying37 rfl rfl sz0_apiNode (by omega)) ?_
    refine WL.v (Y.fieldAddr fo_apiNode1 rfl) ?_
    refine WL.v (Y.load1 Tryz.underlying24 rfl (hma.ext hK.old).node1 rfl) ?_
    refine WL.v (Y.len_slice Tryz.underlying24 rfl) ?_
    refine WL.m rfl ?_
    refine WL.nil (hK13 _ _ ?_); try clear hK13 K13
    refine CW.block ?_
    refine CW.loop (X := Nat) (fun x => [(0, .pointer (some ⟨gk, 0, none⟩)), (1, .slice (some ⟨b, 0, none⟩) l.length l.length), (5, .slice (some ⟨ub, 0, none⟩) l.length l.length), (6, u), (7, .int .i64 (i : Int)), (65, .slice Ay ps.length cy), (66, .int .i64 (ps.length : Int)), (67, .int .i64 (x : Int))]) (fun x w0 => x ≤ ps.length ∧ Blk w0 ub TBo (boolC (setAll (ndsL l) U (ps.take x))) ∧ Own w0 TDg 32 u (flatD (if ci = true ∧ ¬ cu = true then out ++ [id] else out)) ∧ Ext w w0 ∧ w5.heap.size ≤ w0.heap.size) (fun x => ps.length - x) 0 Fr.ok ⟨Nat.zero_le _, by simpa [setAll] using hU, hO, hE, Nat.le_refl _⟩ ?_
    intro x w6 hl6
    clear hE hK hU hO
    obtain ⟨hxp, hU, hO, hE, hz6⟩ := hl6
    have hK := hK0.ext hE
    refine CW.sr fun K14 hK14 => ?_
    refine WL.v (Y.lss rfl rfl) ?_
    refine WL.nil (hK14 _ _ ?_); try clear hK14 K14
    refine CW.seq fun K15 hK15 => ?_
    (first | refine CW.condD rfl ?_ ?_ | refine CW.condND rfl ?_ ?_ | refine CW.condN rfl ?_ ?_ | refine CW.cond rfl ?_ ?_) <;> intro ht16
    ·
     -- then
     refine CW.skip ?_
     refine hK15 _ _ ?_; try clear hK15 K15
     refine CW.seq fun K17 hK17 => ?_
     refine CW.block ?_
     refine CW.seq fun K18 hK18 => ?_
     obtain ⟨d, hd⟩ : ∃ d, ps[x]? = some d := ⟨_, List.getElem?_eq_getElem (by omega)⟩
     obtain ⟨a2, rfl, hma2⟩ := hps0.at hd
     have hdi := mem_idsTake (ok_par hK0.ok hyn (List.mem_of_getElem? hd))
     have hix := ixN_lt hdi
     rw [hnl] at hix
     obtain ⟨jf, hf⟩ := placed_ix hdi
     obtain ⟨cb2, hcb2⟩ : ∃ cb, (setAll (ndsL l) U (ps.take x))[ixN (ndsL l) d]? = some cb := ⟨_, List.getElem?_eq_getElem (by rw [setAll_length]; omega)⟩
     refine CW.region ?_
     refine WL.v (Y.indexAddrN Tryz.underlying24 rfl rfl sz0_apiDigest (by omega)) ?_
     refine WL.v (Y.load Tryz.underlying43 rfl (hma2.ext hK.old) (sz_apiDigest _) rfl) ?_
     refine as_apiDigest rfl (by simp) (by decide) fun g9 w7 hx7 hg9 hB9 => ?_
     have hlt9 := hB9.lt; have hz7 := hx7.size
     have hM9 := hB9.mem; have hz7 := hx7.size; have hE := hE.thenExt hx7; have hK := hK.ext hx7
     refine WL.nil (hK18 _ _ ?_); try clear hK18 K18
     refine CW.head 8 (by kernel_rfl) (by kernel_rfl) fun w8 hx8 => ?_
     skip; have hz8 := hx8.size; have hE := hE.thenExt hx8; have hK := hK.ext hx8; have hB9 := hB9.ext hx8
     refine HL.val (Y.move rfl) (by decide) ?_
     refine HL.val (Y.move rfl) (by decide) ?_
     refine HL.val (Y.nilCheck rfl) (by decide) ?_
     refine HL.val (Y.fieldAddr fo_graphlook1 rfl) (by decide) ?_
     refine HL.val (Y.load1 Tryz.underlying72 rfl hK.blk.mem.graphlook1 rfl) (by decide) ?_
     refine HL.val (Y.load Tryz.underlying43 rfl hB9.mem (sz_apiDigest _) rfl) (by decide) ?_
     refine HL.val (Y.lookupAt keyDig (fun _ => rfl) Tryz.underlying72 rfl rfl hK.map hf rfl) (by decide) ?_
     refine HL.val (Y.indexAddrN Tryz.underlying81 rfl rfl sz0_bool (by omega)) (by decide) ?_
     refine HL.nil ?_
     refine WL.storeB rfl rfl rfl sz_bool ((hU.ext hx7).ext hx8) hcb2 (fun w9 hc9 hB9_ => ?_)
     have hz9 := hc9.size; have hE := hE.step hc9 (fun k h => by omega); have hK := hK.chg hc9 (fun h => by omega) (fun h => by omega) (fun h => by omega) (fun k h => by omega); have hB9 := hB9.chg hc9 (fun h => by omega)
     have hU := hB9_
     have hO := ((hO.ext hx7).ext hx8).chg hc9 (fun k hk h => by have := hfu k hk; omega)
     refine WL.nil (hK17 _ _ ?_); try clear hK17 K17
     refine CW.region ?_
     refine WL.v (Y.add rfl rfl ⟨by omega, by omega⟩) ?_
     refine WL.m rfl ?_
     refine WL.nil ?_
     refine ⟨x + 1, by show ps.length - (x + 1) < ps.length - x; omega, Fr.ok, by show x + 1 ≤ ps.length; omega, ?_, hO, hE, by omega⟩
     show Blk _ _ _ (boolC (setAll _ _ (ps.take (x + 1))))
     rw [take_succ hd, setAll_app]
     exact hU
    refine CW.exit ?_
    exact ⟨u, Fr.ok, by rw [if_pos (by assumption)]; rw [List.take_of_length_le (by omega)] at hU; exact hU, hO, hfu, hE, by omega⟩
   refine CW.skip ?_
   exact ⟨u, Fr.ok, by rw [if_neg (by assumption)]; exact hU, hO, hfu, hE, by omega⟩
  rintro u w10 hj10
  clear hE hK hU hO hfu
  obtain ⟨hU, hO, hfu, hE, hz10⟩ := hj10
  refine CW.region ?_
  refine WL.m rfl ?_
  refine WL.v (Y.sub rfl rfl ⟨by omega, by omega⟩) ?_
  refine WL.a rfl ?_
  refine WL.nil ?_
  refine ⟨(i, (if ci = true ∨ cu = true then setAll (ndsL l) U ps else U), u, (if ci = true ∧ ¬ cu = true then out ++ [id] else out)), by show i < i + 1; omega, Fr.ok, by show i ≤ _; omega, hU, ?_, hO, hfu, ?_, ?_, hE, by omega⟩
  ·
   show (ite _ _ _ : List Bool).length = _
   split <;> simp [setAll_length, hUl]
  ·
   show (ite _ _ _ : List Dig).length ≤ l.length - i
   split <;> (try simp only [List.length_append, List.length_singleton]) <;> omega
  ·
   show _ = headsD (ndsL l) In i _ _
   rw [hh, headsD_at hyn]
   simp only [hci, hcu, Option.some.injEq]
 refine CW.exit ?_
 refine hK4 _ _ ?_; try clear hK4 K4
 refine CW.sr fun K19 hK19 => ?_
 refine WL.m rfl ?_
 refine WL.call Tryz.func61 rfl rfl rfl (sort_gen cfO lt_cfO Tryz.func62 rfl rfl gorder_any _ _ _ _ _ hO (by omega)) (by simp) ?_; rintro v81 w11 hR11
 obtain ⟨rfl, hO11, hc11⟩ := hR11
 have hz11 := hc11.size
 have hE := hE.step hc11 (fun k h => by have := hfu k h; omega)
 refine WL.nil (hK19 _ _ ?_); try clear hK19 K19
 refine CW.sr fun K20 hK20 => ?_
 refine WL.m rfl ?_
 refine WL.a rfl ?_
 refine WL.nil (hK20 _ _ ?_); try clear hK20 K20
 refine CW.ret ⟨_, rfl, ?_⟩
 refine ⟨?_, fun k hk => by have := hfu k hk; omega, hE⟩
 have hk0 : k = 0 := by omega
 subst hk0
 rw [headsL, hnl, hh]
 exact hO11
end Go.Proofs.YtjbeooimhoilmaaGreatDoor
/- graph.Heads, walked. No condition. -/
namespace Go.Fw
open Go.RowKit
theorem Blk.slV {w : World} {g : Nat} {e : TypeId} {ds : List (Value × List Dig)} (h : Blk w g e (ds.map Prod.fst)) (hl : ds.length ≤ maxLen) : Sl w (fun x : Value × List Dig => [x.1]) 1 (.slice (some ⟨g, 0, none⟩) ds.length ds.length) ds :=
 ⟨_, _, _, rfl, rfl, Nat.le_refl _, hl, fun i x hi => ⟨_, rfl, by
  rw [Nat.mul_one]
  exact h.mem.sub i fun j v hj => by
   cases j with
   | zero => simp at hj; subst hj; simp [hi]
   | succ j => simp at hj⟩⟩
end Go.Fw
namespace Go.Proofs.YtjbeooimhoilmaaGreatDoor
open Go.RowKit Go.Fw Go.Pl Go.Sort
theorem info_sd : ∃ i : TypeInfo, Tryz.prog.info? TSd = some i ∧ i.zero = some (.slice none 0 0) ∧ i.size = 1 := by
 have h : (Tryz.prog.info? TSd).map (fun i => (i.zero, i.size)) = some (some (.slice none 0 0), 1) := by kernel_rfl
 cases hi : Tryz.prog.info? TSd with
 | none => simp [hi] at h
 | some i => simp [hi] at h; exact ⟨i, rfl, h.1, h.2⟩
theorem bs1_sd (A : Option Addr) (m c : Nat) (w : World) : (Instr.buildSlice 128 1 [(0, .slice A m c)].toArray).run Tryz.prog w = .ok (.slice (some ⟨w.heap.size, 0, none⟩) 1 1) (w.alloc (.cells [.slice A m c].toArray TSd)) := by
 obtain ⟨i, hi, hz, hs⟩ := info_sd
 exact run_bs1 Tryz.underlying128 hi hz (by omega) (by omega) rfl (by rw [hs]; rfl) w
theorem wrongQ_in {l : List Nd} {ids : List Dig} (h : wrongQ l ids = 0) : ∀ d ∈ ids, d ∈ idsL l := by
 intro d hd
 unfold wrongQ at h
 split at h
 ·
  rename_i h1; exact absurd h h1
 ·
  split at h
  ·
   omega
  ·
   rename_i h2
   by_cases hm : d ∈ idsL l
   ·
    exact hm
   ·
    exact absurd ⟨d, hd, hm⟩ h2
set_option maxRecDepth 100000 in
set_option maxHeartbeats 1000000 in
theorem gHeads_any (u v0 : Value) (l : List NdV) (ids : List Dig) (w : World) (hl : Nds w u l) (hd : Sl w digC 32 v0 ids) : Calls Tryz.prog 21 #[u, v0] w (Ret fun v w' => ∃ hv, v = .tuple #[hv, .int .i64 (wrongQ (ndsL l) ids)] ∧ Own w' TDg 32 hv (flatD (if wrongQ (ndsL l) ids = 0 then headsL (ndsL l) (mark0 (ndsL l) ids) else [])) ∧ (∀ k, hv.ownBlock = some k → w.heap.size ≤ k) ∧ Ext w w') := by
 have hl0 := hl
 obtain ⟨A, c, rfl, hmc, hcm⟩ := hl.sl.lens
 unfold maxLen at hcm
 have hd0 := hd
 obtain ⟨A1, m1, c1, rfl, hdm, hdc, hdx, hdg⟩ := hd
 unfold maxLen at hdx
 have hnl : (ndsL l).length = l.length := by simp
 obtain ⟨bi, hbi, hbz, hbs, hbb⟩ := info_boolT
 refine calls_of_CW 42 [4, 5] [(0, .slice A l.length c), (1, .slice A1 m1 c1)] Tryz.func21 rfl rfl rfl (by simp) args2 ?_
 have hE : Ext w w := Chg.refl
 refine CW.sr fun K1 hK1 => ?_
 refine WL.a rfl ?_
 refine WL.a rfl ?_
 refine WL.nil (hK1 _ _ ?_); try clear hK1 K1
 refine CW.sr fun K2 hK2 => ?_
 refine WL.m rfl ?_
 refine WL.m rfl ?_
 refine WL.st (St.buildSlice rfl (bs1_sd _ _ _)) (by decide) fun v14 w1 hR1 => ?_
 obtain ⟨g14, rfl, hg14, hB14, hx1⟩ := hR1
 have hz1 := hx1.size
 have hE := hE.thenExt hx1
 refine WL.call Tryz.func38 rfl rfl rfl (gbegin_any _ _ l [(.slice A1 m1 c1, ids)] _ (hl0.ext hx1) (Blk.slV (ds := [(.slice A1 m1 c1, ids)]) hB14 (by simp [maxLen])) (fun x hx => by simp at hx; subst hx; exact hd0.ext hx1)) (by simp) ?_; rintro v15 w2 hR2
 obtain ⟨p, rfl, hx2, hp⟩ := hR2
 have hz2 := hx2.size
 have hE := hE.thenExt hx2
 have hfl : ([((.slice A1 m1 c1 : Value), ids)].map Prod.snd).flatten = ids := by simp
 simp only [hfl] at hp ⊢
 refine WL.m rfl ?_
 refine WL.v (Y.extract rfl rfl) ?_
 refine WL.v (Y.extract rfl rfl) ?_
 refine WL.a rfl ?_
 refine WL.a rfl ?_
 refine WL.nil (hK2 _ _ ?_); try clear hK2 K2
 refine CW.seq fun K3 hK3 => ?_
 refine CW.sr fun K4 hK4 => ?_
 refine WL.m rfl ?_
 refine WL.v (Y.neq rfl rfl) ?_
 refine WL.nil (hK4 _ _ ?_); try clear hK4 K4
 (first | refine CW.condD rfl ?_ ?_ | refine CW.condND rfl ?_ ?_ | refine CW.condN rfl ?_ ?_ | refine CW.cond rfl ?_ ?_) <;> intro ht5
 ·
  -- then
  refine CW.sr fun K6 hK6 => ?_
  refine WL.m rfl ?_
  refine WL.a rfl ?_
  refine WL.a rfl ?_
  refine WL.nil (hK6 _ _ ?_); try clear hK6 K6
  refine CW.ret ⟨_, rfl, ?_⟩
  have he : ¬ wrongQ (ndsL l) ids = 0 := by assumption
  exact ⟨_, rfl, by rw [if_neg he]; exact Own.nil, (fun k h => by simp [Value.ownBlock] at h), hE⟩
 refine CW.skip ?_
 refine hK3 _ _ ?_; try clear hK3 K3
 refine CW.seq fun K7 hK7 => ?_
 have hq0 : wrongQ (ndsL l) ids = 0 := Decidable.not_not.1 (by assumption)
 obtain ⟨gk, r, sb, rfl, hK⟩ := hp hq0
 have hin := wrongQ_in hq0
 have hln := ok_len hK.ok
 have hltK := hK.lt
 have hnew := hK.new
 refine CW.region ?_
 refine WL.m rfl ?_
 refine WL.v (Y.len_slice Tryz.underlying37 rfl) ?_
 refine WL.st (St.makeB Tryz.underlying81 hbi hbz hbs hbb rfl rfl (by omega)) (by decide) fun v23 w3 hR3 => ?_
 obtain ⟨b, rfl, hb, hIn, hx3⟩ := hR3
 have hz3 := hx3.size
 have hE := hE.thenExt hx3
 have hK := hK.ext hx3
 have hltb := hIn.lt
 refine WL.a rfl ?_
 refine WL.nil (hK7 _ _ ?_); try clear hK7 K7
 refine CW.seq fun K8 hK8 => ?_
 refine CW.sr fun K9 hK9 => ?_
 refine WL.m rfl ?_
 refine WL.v (Y.len_slice Tryz.underlying24 rfl) ?_
 refine WL.m rfl ?_
 refine WL.nil (hK9 _ _ ?_); try clear hK9 K9
 refine CW.block ?_
 refine CW.loop (X := Nat) (fun x => [(6, .pointer (some ⟨gk, 0, none⟩)), (8, .slice (some ⟨b, 0, none⟩) l.length l.length), (24, .slice A1 m1 c1), (25, .int .i64 (m1 : Int)), (26, .int .i64 (x : Int))]) (fun x w0 => x ≤ m1 ∧ Blk w0 b TBo (boolC (setAll (ndsL l) (List.replicate l.length false) (ids.take x))) ∧ Ext w w0 ∧ LookAt w1 w0 gk r sb (.slice A l.length c) l (List.replicate l.length false)) (fun x => m1 - x) 0 Fr.ok ⟨Nat.zero_le _, by simpa [setAll] using hIn, hE, hK⟩ ?_
 intro x w4 hl4
 clear hE hK hIn
 obtain ⟨hxm, hIn, hE, hK⟩ := hl4
 have hltK2 := hK.lt
 have hltb2 := hIn.lt
 have hzE := hE.size
 refine CW.sr fun K10 hK10 => ?_
 refine WL.v (Y.lss rfl rfl) ?_
 refine WL.nil (hK10 _ _ ?_); try clear hK10 K10
 refine CW.seq fun K11 hK11 => ?_
 (first | refine CW.condD rfl ?_ ?_ | refine CW.condND rfl ?_ ?_ | refine CW.condN rfl ?_ ?_ | refine CW.cond rfl ?_ ?_) <;> intro ht12
 ·
  -- then
  refine CW.skip ?_
  refine hK11 _ _ ?_; try clear hK11 K11
  refine CW.seq fun K13 hK13 => ?_
  refine CW.block ?_
  refine CW.seq fun K14 hK14 => ?_
  obtain ⟨d, hd⟩ : ∃ d, ids[x]? = some d := ⟨_, List.getElem?_eq_getElem (by omega)⟩
  obtain ⟨a, rfl, hma⟩ := hdg _ _ hd
  have hix := ixN_lt (hin d (List.mem_of_getElem? hd))
  rw [hnl] at hix
  obtain ⟨jf, hf⟩ := placed_ix (hin d (List.mem_of_getElem? hd))
  obtain ⟨cb, hcb⟩ : ∃ cb, (setAll (ndsL l) (List.replicate l.length false) (ids.take x))[ixN (ndsL l) d]? = some cb := ⟨_, List.getElem?_eq_getElem (by rw [setAll_length, List.length_replicate]; omega)⟩
  refine CW.region ?_
  refine WL.v (Y.indexAddrN Tryz.underlying24 rfl rfl sz0_apiDigest (by omega)) ?_
  refine WL.v (Y.load Tryz.underlying43 rfl (hma.ext hE) (sz_apiDigest _) rfl) ?_
  refine as_apiDigest rfl (by simp) (by decide) fun g10 w5 hx5 hg10 hB10 => ?_
  have hlt10 := hB10.lt; have hz5 := hx5.size
  have hM10 := hB10.mem; have hz5 := hx5.size; have hE := hE.thenExt hx5
  refine WL.nil (hK14 _ _ ?_); try clear hK14 K14
  refine CW.head 8 (by kernel_rfl) (by kernel_rfl) fun w6 hx6 => ?_
  skip; have hz6 := hx6.size; have hE := hE.thenExt hx6; have hB10 := hB10.ext hx6
  refine HL.val (Y.move rfl) (by decide) ?_
  refine HL.val (Y.move rfl) (by decide) ?_
  refine HL.val (Y.nilCheck rfl) (by decide) ?_
  refine HL.val (Y.fieldAddr fo_graphlook1 rfl) (by decide) ?_
  refine HL.val (Y.load1 Tryz.underlying72 rfl ((hK.ext hx5).ext hx6).blk.mem.graphlook1 rfl) (by decide) ?_
  refine HL.val (Y.load Tryz.underlying43 rfl hB10.mem (sz_apiDigest _) rfl) (by decide) ?_
  refine HL.val (Y.lookupAt keyDig (fun _ => rfl) Tryz.underlying72 rfl rfl ((hK.ext hx5).ext hx6).map hf rfl) (by decide) ?_
  refine HL.val (Y.indexAddrN Tryz.underlying81 rfl rfl sz0_bool (by omega)) (by decide) ?_
  refine HL.nil ?_
  refine WL.storeB rfl rfl rfl sz_bool ((hIn.ext hx5).ext hx6) hcb (fun w7 hc7 hB7_ => ?_)
  have hz7 := hc7.size; have hE := hE.step hc7 (fun k h => by omega); have hB10 := hB10.chg hc7 (fun h => by omega)
  have hK := ((hK.ext hx5).ext hx6).chg hc7 (fun h => by omega) (fun h => by omega) (fun h => by omega) (fun k h => by omega)
  refine WL.nil (hK13 _ _ ?_); try clear hK13 K13
  refine CW.region ?_
  refine WL.v (Y.add rfl rfl ⟨by omega, by omega⟩) ?_
  refine WL.m rfl ?_
  refine WL.nil ?_
  refine ⟨x + 1, by show m1 - (x + 1) < m1 - x; omega, Fr.ok, by show x + 1 ≤ m1; omega, ?_, hE, hK⟩
  show Blk _ _ _ (boolC (setAll _ _ (ids.take (x + 1))))
  rw [take_succ hd, setAll_app]
  exact hB7_
 refine CW.exit ?_
 refine hK8 _ _ ?_; try clear hK8 K8
 refine CW.sr fun K15 hK15 => ?_
 refine WL.m rfl ?_
 refine WL.m rfl ?_
 refine WL.call Tryz.func39 rfl rfl rfl (gheads_any w1 _ gk r sb b _ l _ (mark0 (ndsL l) ids) hK (by rw [mark0, hnl]; rw [List.take_of_length_le (by omega)] at hIn; exact hIn) (by rw [mark0_length, hnl])) (by simp) ?_; rintro v41 w8 hR8
 obtain ⟨hO, hfu, hx8⟩ := hR8
 have hz8 := hx8.size
 have hzE2 := hE.size
 have hE := hE.thenExt hx8
 refine WL.a rfl ?_
 refine WL.a rfl ?_
 refine WL.nil (hK15 _ _ ?_); try clear hK15 K15
 refine CW.ret ⟨_, rfl, ?_⟩
 exact ⟨_, by rw [hq0], by rw [if_pos hq0]; exact hO, fun k hk => by have := hfu k hk; omega, hE⟩
end Go.Proofs.YtjbeooimhoilmaaGreatDoor
/- graph.Above, Common, Within, walked. No condition. -/
namespace Go.Proofs.YtjbeooimhoilmaaGreatDoor
open Go.RowKit Go.Fw Go.Pl Go.Sort
end Go.Proofs.YtjbeooimhoilmaaGreatDoor
/- graph.Common, walked. No condition. -/
namespace Go.Pl
end Go.Pl
namespace Go.Proofs.YtjbeooimhoilmaaGreatDoor
open Go.RowKit Go.Fw Go.Pl Go.Sort
end Go.Proofs.YtjbeooimhoilmaaGreatDoor
/- graph.Above, walked. No condition. -/
namespace Go.Pl
open Go.Fw
def idAt (l : List Nd) (i : Nat) : Dig := ((l[i]?).map Nd.id).getD Dig.zero
def aboveL (l : List Nd) (ids : List Dig) : List Dig := sortedD ((reachL l ids).map (idAt l))
end Go.Pl
namespace Go.Proofs.YtjbeooimhoilmaaGreatDoor
open Go.RowKit Go.Fw Go.Pl Go.Sort
end Go.Proofs.YtjbeooimhoilmaaGreatDoor
