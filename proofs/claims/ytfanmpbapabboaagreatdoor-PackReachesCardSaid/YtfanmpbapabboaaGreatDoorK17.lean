/- Parts of a proof: what its last text leans on. No condition. -/
import Derived.Test.YtfanmpbapabboaaGreatDoorK16
set_option linter.unusedSimpArgs false
set_option linter.unusedVariables false
/- The reference's store: Find, Get, Size, walked. No condition. -/
namespace Go.Fw
section
variable {w : World} {a : Addr} {u v : Value} (h : Mem w a [u, v])
include h
theorem Mem.recensionref11Store0 : w.cell? (a.add 0) = some u := h.cell 0 rfl
theorem Mem.recensionref11Store1 : w.cell? (a.add 1) = some v := h.cell 1 rfl
end
theorem mfind_absentG {α β : Type} [DecidableEq α] {key : β → α} {d : α} : ∀ {l : List β} {i : Nat}, (∀ e ∈ l, key e ≠ d) → mfind key d l i = none
 | [], _, _ => rfl
 | x :: r, i, h => by
  rw [mfind, if_neg (h x (by simp))]
  exact mfind_absentG fun e he => h e (by simp [he])
theorem mfind_first {α β : Type} [DecidableEq α] {key : β → α} {d : α} : ∀ {l : List β} {i j : Nat} {e : β}, (∀ k x, k < j → l[k]? = some x → key x ≠ d) → l[j]? = some e → key e = d → mfind key d l i = some (i + j, e)
 | [], _, _, _, _, h, _ => by simp at h
 | x :: r, i, 0, e, _, h, hk => by
  simp at h; subst h
  rw [mfind, if_pos hk, Nat.add_zero]
 | x :: r, i, j + 1, e, hn, h, hk => by
  rw [mfind, if_neg (hn 0 x om_ (by simp))]
  rw [mfind_first (i := i + 1) (j := j) (fun k y hkj hy => hn (k + 1) y om_ (by simpa using hy)) (by simpa using h) hk]
  rw [show i + 1 + j = i + (j + 1) by omega]
end Go.Fw
namespace Go.Pl
open Go.Fw
abbrev RL := List (Dig × List UInt8)
abbrev rAt (rs : RL) (d : Dig) : Option (Nat × (Dig × List UInt8)) := mfind Prod.fst d rs 0
def rFind (rs : RL) (d : Dig) : Int := match rAt rs d with | some p => (p.1 : Int) | none => -1
def rGetB (rs : RL) (d : Dig) : List UInt8 := match rAt rs d with | some p => p.2.2 | none => []
def rGetI (rs : RL) (d : Dig) : Int := match rAt rs d with | some _ => 0 | none => 5
def rsum (rs : RL) (n : Nat) : Nat := ((rs.take n).map fun p => p.2.length).sum
theorem rsum_le {rs : RL} {n m : Nat} (h : ∀ p ∈ rs, p.2.length ≤ m) : rsum rs n ≤ rs.length * m := by
 have key : ∀ l : RL, (∀ p ∈ l, p.2.length ≤ m) → (l.map fun p => p.2.length).sum ≤ l.length * m := by
  intro l
  induction l with
  | nil => simp
  | cons x r ih =>
   intro h
   have h1 := h x (by simp)
   have h2 := ih fun p hp => h p (by simp [hp])
   simp only [List.map_cons, List.sum_cons, List.length_cons, Nat.succ_mul]
   omega
 have h1 := key (rs.take n) fun p hp => h p (List.mem_of_mem_take hp)
 have h2 : (rs.take n).length * m ≤ rs.length * m := Nat.mul_le_mul_right _ (by rw [List.length_take]; omega)
 exact Nat.le_trans h1 h2
end Go.Pl
namespace Go.Proofs.YtfanmpbapabboaaGreatDoor
open Go.RowKit Go.Fw Go.Pl Go.Sort
abbrev TRS : TypeId := 78
theorem fo_recensionref11Store0 : FieldOff Tryz.prog TRS 0 0 := ⟨_, _, 1, Tryz.underlying78, rfl, by kernel_rfl, by decide, rfl⟩
theorem fo_recensionref11Store1 : FieldOff Tryz.prog TRS 1 1 := ⟨_, _, 1, Tryz.underlying78, rfl, by kernel_rfl, by decide, rfl⟩
structure RAt (w : World) (g : Nat) (u v : Value) (rs : RL) : Prop where
 blk : Blk w g TRS [u, v]
 ids : Own w TDg 32 u (flatD (rs.map Prod.fst))
 objs : Own w TStr 1 v (flatS (rs.map Prod.snd))
 nu : ∀ k, u.ownBlock = some k → k ≠ g ∧ v.ownBlock ≠ some k
 nv : ∀ k, v.ownBlock = some k → k ≠ g
 few : rs.length ≤ 500
 short : ∀ p ∈ rs, p.2.length ≤ 131072
section
variable {w w' : World} {g : Nat} {u v : Value} {rs : RL} {S : Nat → Prop}
theorem RAt.chg (h : RAt w g u v rs) (hc : Chg S w w') (hg : ¬ S g) (hu : ∀ k, u.ownBlock = some k → ¬ S k) (hv : ∀ k, v.ownBlock = some k → ¬ S k) : RAt w' g u v rs where
 blk := h.blk.chg hc hg
 ids := h.ids.chg hc hu
 objs := h.objs.chg hc hv
 nu := h.nu
 nv := h.nv
 few := h.few
 short := h.short
theorem RAt.ext (h : RAt w g u v rs) (hc : Ext w w') : RAt w' g u v rs := h.chg hc (fun f => f) (fun _ _ f => f) (fun _ _ f => f)
theorem RAt.sum (h : RAt w g u v rs) (n : Nat) : rsum rs n ≤ 65536000 := by
 have h1 := rsum_le (n := n) h.short
 have h2 : rs.length * 131072 ≤ 500 * 131072 := Nat.mul_le_mul_right _ h.few
 omega
end
theorem rs_fst {rs : RL} {i : Nat} {d : Dig} {b : List UInt8} (h : rs[i]? = some (d, b)) : (rs.map Prod.fst)[i]? = some d := by rw [List.getElem?_map, h]; rfl
theorem rs_snd {rs : RL} {i : Nat} {d : Dig} {b : List UInt8} (h : rs[i]? = some (d, b)) : (rs.map Prod.snd)[i]? = some b := by rw [List.getElem?_map, h]; rfl
theorem rFind_any (g : Nat) (rs : RL) (d : Dig) (w : World) (hR : ∃ u v, RAt w g u v rs) : Calls Tryz.prog 28 #[.pointer (some ⟨g, 0, none⟩), digV d] w (Ret fun v w' => v = .int .i64 (rFind rs d) ∧ Ext w w') := by
 obtain ⟨u, v, hR⟩ := hR
 obtain ⟨A, m, c, rfl⟩ := hR.ids.lens
 obtain ⟨B, n, cb, rfl⟩ := hR.objs.lens
 have hm := (Own.len digC_length de_ hR.ids).1
 have hn := (Own.len strC_length de_ hR.objs).1
 rw [List.length_map] at hm hn
 have hfew := hR.few
 have hB0 := hR.blk
 refine calls_of_CW 25 [4] [(0, .pointer (some ⟨g, 0, none⟩)), (1, digV d)] Tryz.func28 rfl rfl rfl (by simp) args2 ?_
 have hE : Ext w w := Chg.refl
 refine CW.sr fun K1 hK1 => ?_
 refine WL.box rfl rfl de_ fun g3 w1 hx1 hg3 hB3 => ?_
 have hlt3 := hB3.lt; have hz1 := hx1.size
 have hM3 := hB3.mem; have hz1 := hx1.size; have hE := hE.thenExt hx1; have hR := hR.ext hx1; have hB0 := hB0.ext hx1
 refine WL.a rfl ?_
 refine WL.nil (hK1 _ _ ?_); try clear hK1
 refine CW.seq fun K2 hK2 => ?_
 refine CW.sr fun K3 hK3 => ?_
 refine WL.a rfl ?_
 refine WL.nil (hK3 _ _ ?_); try clear hK3
 refine CW.block ?_
 refine CW.loop (X := Nat) (fun x => [(0, .pointer (some ⟨g, 0, none⟩)), (3, .pointer (some ⟨g3, 0, none⟩)), (5, .int .i64 (x : Int))]) (fun x w0 => x ≤ m ∧ (∀ k e, k < x → rs[k]? = some e → e.1 ≠ d) ∧ Ext w1 w0) (fun x => m - x) 0 Fr.ok ⟨Nat.zero_le _, (fun k e h => by omega), Chg.refl⟩ ?_
 intro x w2 hl2
 obtain ⟨hx, hno, hL⟩ := hl2
 have hE := hE.thenExt hL
 have hR := hR.ext hL
 have hB0 := hB0.ext hL
 have hB3 := hB3.ext hL
 refine CW.seq fun K4 hK4 => ?_
 refine CW.sr fun K5 hK5 => ?_
 refine WL.m rfl ?_
 refine WL.m rfl ?_
 refine WL.v (Y.nilCheck rfl) ?_
 refine WL.v (Y.fieldAddr fo_recensionref11Store0 rfl) ?_
 refine WL.v (Y.load1 Tryz.underlying23 rfl hB0.mem.recensionref11Store0 rfl) ?_
 refine WL.v (Y.len_slice Tryz.underlying23 rfl) ?_
 refine WL.v (Y.lss rfl rfl) ?_
 refine WL.nil (hK5 _ _ ?_); try clear hK5
 (first | refine cd_ rfl ?_ ?_ | refine ce_ rfl ?_ ?_ | refine cn_ rfl ?_ ?_ | refine cb_ rfl ?_ ?_) <;> intro ht6
 ·
  -- then
  refine CW.skip ?_
  refine hK4 _ _ ?_; try clear hK4
  refine CW.seq fun K7 hK7 => ?_
  refine CW.block ?_
  refine CW.seq fun K8 hK8 => ?_
  obtain ⟨⟨dx, bx⟩, hex⟩ : ∃ e, rs[x]? = some e := ⟨_, List.getElem?_eq_getElem om_⟩
  obtain ⟨a, rfl, hma⟩ := (hR.ids.sl digC_length de_).at (rs_fst hex)
  refine CW.quiet (fun wq => Ext w2 wq) kr_ kr_ Chg.drew ?_
  refine QL.m rfl ?_
  refine QL.v (fun wq hq => Y.nilCheck rfl) ?_
  refine QL.v (fun wq hq => Y.fieldAddr fo_recensionref11Store0 rfl) ?_
  refine QL.v (fun wq hq => Y.load1 Tryz.underlying23 rfl (hB0.ext hq).mem.recensionref11Store0 rfl) ?_
  refine QL.m rfl ?_
  refine QL.v (fun wq hq => Y.indexAddrN Tryz.underlying23 rfl rfl sz0_apiDigest om_) ?_
  refine QL.v (fun wq hq => Y.load Tryz.underlying38 rfl (hma.ext hq) (sz_apiDigest _) rfl) ?_
  refine QL.v (fun wq hq => Y.load Tryz.underlying38 rfl (hB3.ext hq).mem (sz_apiDigest _) rfl) ?_
  refine QL.v (fun wq hq => Y.eql_apiDigest rfl rfl) ?_
  refine QL.nil fun w3 hx3 => ?_
  have hz3 := hx3.size
  have hE := hE.thenExt hx3
  have hR := hR.ext hx3
  have hB0 := hB0.ext hx3
  have hB3 := hB3.ext hx3
  refine hK8 _ _ ?_; try clear hK8
  (first | refine cd_ rfl ?_ ?_ | refine ce_ rfl ?_ ?_ | refine cn_ rfl ?_ ?_ | refine cb_ rfl ?_ ?_) <;> intro ht9
  ·
   -- then
   refine CW.sr fun K10 hK10 => ?_
   refine WL.m rfl ?_
   refine WL.a rfl ?_
   refine WL.nil (hK10 _ _ ?_); try clear hK10
   refine CW.ret ⟨_, rfl, ?_⟩
   have hdx : dx = d := by assumption
   exact ⟨by rw [rFind, show rAt rs d = some (0 + x, (dx, bx)) from mfind_first hno hex hdx]; simp, hE⟩
  refine CW.skip ?_
  refine hK7 _ _ ?_; try clear hK7
  refine CW.region ?_
  refine WL.m rfl ?_
  refine WL.v (Y.add rfl rfl o2_) ?_
  refine WL.a rfl ?_
  refine WL.nil ?_
  have hdx : ¬ dx = d := by assumption
  refine ⟨x + 1, by show m - (x + 1) < m - x; omega, Fr.ok, by show x + 1 ≤ m; omega, fun k e hk he => ?_, hL.thenExt hx3⟩
  by_cases h : k = x
  ·
   subst h; rw [hex] at he; cases he; exact hdx
  ·
   exact hno k e om_ he
 refine CW.exit ?_
 refine hK2 _ _ ?_; try clear hK2
 refine CW.sr fun K11 hK11 => ?_
 refine WL.a rfl ?_
 refine WL.nil (hK11 _ _ ?_); try clear hK11
 refine CW.ret ⟨_, rfl, ?_⟩
 exact ⟨by rw [rFind, show rAt rs d = none from mfind_absentG fun e he => by obtain ⟨k, hk⟩ := List.mem_iff_getElem?.1 he; exact hno k e (by have := (List.getElem?_eq_some_iff.1 hk).1; omega) hk], hE⟩
theorem rGet_any (g : Nat) (rs : RL) (d : Dig) (w : World) (hR : ∃ u v, RAt w g u v rs) : Calls Tryz.prog 15 #[.pointer (some ⟨g, 0, none⟩), digV d] w (Ret fun v w' => v = .tuple #[.string (bs (rGetB rs d)), .int .i64 (rGetI rs d)] ∧ Ext w w') := by
 obtain ⟨u, v, hR⟩ := hR
 obtain ⟨A, m, c, rfl⟩ := hR.ids.lens
 obtain ⟨B, n, cb, rfl⟩ := hR.objs.lens
 have hm := (Own.len digC_length de_ hR.ids).1
 have hn := (Own.len strC_length de_ hR.objs).1
 rw [List.length_map] at hm hn
 have hfew := hR.few
 have hB0 := hR.blk
 refine calls_of_CW 19 [4, 5] [(0, .pointer (some ⟨g, 0, none⟩)), (1, digV d)] Tryz.func15 rfl rfl rfl (by simp) args2 ?_
 have hE : Ext w w := Chg.refl
 refine CW.sr fun K1 hK1 => ?_
 refine WL.box rfl rfl de_ fun g3 w1 hx1 hg3 hB3 => ?_
 have hlt3 := hB3.lt; have hz1 := hx1.size
 have hM3 := hB3.mem; have hz1 := hx1.size; have hE := hE.thenExt hx1; have hR := hR.ext hx1; have hB0 := hB0.ext hx1
 refine WL.a rfl ?_
 refine WL.a rfl ?_
 refine WL.nil (hK1 _ _ ?_); try clear hK1
 refine CW.sr fun K2 hK2 => ?_
 refine WL.m rfl ?_
 refine WL.v (Y.load Tryz.underlying38 rfl hB3.mem (sz_apiDigest _) rfl) ?_
 refine WL.call Tryz.func28 rfl rfl rfl (rFind_any g rs d _ ⟨_, _, hR⟩) (by simp) ?_; rintro v w2 ⟨rfl, hx2⟩; have hz2 := hx2.size; have hE := hE.thenExt hx2; have hR := hR.ext hx2; have hB0 := hB0.ext hx2; have hB3 := hB3.ext hx2
 refine WL.a rfl ?_
 refine WL.nil (hK2 _ _ ?_); try clear hK2
 refine CW.seq fun K3 hK3 => ?_
 refine CW.sr fun K4 hK4 => ?_
 refine WL.m rfl ?_
 refine WL.v (Y.lss rfl rfl) ?_
 refine WL.nil (hK4 _ _ ?_); try clear hK4
 (first | refine cd_ rfl ?_ ?_ | refine ce_ rfl ?_ ?_ | refine cn_ rfl ?_ ?_ | refine cb_ rfl ?_ ?_) <;> intro ht5
 ·
  -- then
  refine CW.sr fun K6 hK6 => ?_
  refine WL.a rfl ?_
  refine WL.a rfl ?_
  refine WL.nil (hK6 _ _ ?_); try clear hK6
  refine CW.ret ⟨_, rfl, ?_⟩
  have hlt : rFind rs d < 0 := by assumption
  have hno : rAt rs d = none := by
   cases h : rAt rs d with
   | none => rfl
   | some p => rw [rFind, h] at hlt; dsimp only at hlt; omega
  exact ⟨by rw [rGetB, rGetI, hno]; rfl, hE⟩
 refine CW.skip ?_
 refine hK3 _ _ ?_; try clear hK3
 refine CW.seq fun K7 hK7 => ?_
 obtain ⟨⟨j, dj, bj⟩, hj⟩ : ∃ p, rAt rs d = some p := by
  cases h : rAt rs d with
  | some p => exact ⟨p, rfl⟩
  | none => exact absurd (show rFind rs d < 0 by rw [rFind, h]; decide) (by assumption)
 have hfj : rFind rs d = (j : Int) := by rw [rFind, hj]
 obtain ⟨_, hjr, _⟩ := mfind_some hj
 rw [Nat.sub_zero] at hjr
 have hjl := (List.getElem?_eq_some_iff.1 hjr).1
 obtain ⟨a, rfl, hma⟩ := (hR.objs.sl strC_length de_).at (rs_snd hjr)
 rw [hfj]
 refine CW.region ?_
 refine WL.m rfl ?_
 refine WL.v (Y.nilCheck rfl) ?_
 refine WL.v (Y.fieldAddr fo_recensionref11Store1 rfl) ?_
 refine WL.v (Y.load1 Tryz.underlying22 rfl hB0.mem.recensionref11Store1 rfl) ?_
 refine WL.m rfl ?_
 refine WL.v (Y.indexAddrN Tryz.underlying22 rfl rfl sz0_string om_) ?_
 refine WL.v (Y.load1 Tryz.underlying9 rfl hma.cell0 rfl) ?_
 refine WL.a rfl ?_
 refine WL.a rfl ?_
 refine WL.nil (hK7 _ _ ?_); try clear hK7
 refine CW.ret ⟨_, rfl, ?_⟩
 exact ⟨by rw [rGetB, rGetI, hj], hE⟩
end Go.Proofs.YtfanmpbapabboaaGreatDoor
/- The reference's store: Put, walked. No condition. -/
namespace Go.Fw
theorem Y.neq_strD {P : Program} {n : NN} {fr : Fr} {w : World} {ty : TypeId} {x y : Operand} {p q : List UInt8} {t t' : TypeId} (hx : ev fr x = some (.string (bs p))) (hy : ev fr y = some (.string (bs q))) :
  Yw P n fr (.binOp .neq t x y t') ty w (.bool (decide (p ≠ q))) w := by
 have := Y.neq_string (P := P) (n := n) (w := w) (ty := ty) (t := t) (t' := t') hx hy
 rw [bs_toList, bs_toList] at this
 rwa [show (!(p == q)) = decide (p ≠ q) by by_cases h : p = q <;> simp [h]] at this
end Go.Fw
namespace Go.Pl
open Go.Fw
def rPutE (rs : RL) (b : List UInt8) : Int := if 131072 < b.length then 3 else if 0 ≤ rFind rs (shaD b) then (if rGetB rs (shaD b) = b then 0 else 10) else if 500 ≤ rs.length then 14 else 0
def rPutD (rs : RL) (b : List UInt8) : Dig := if rPutE rs b = 0 then shaD b else Dig.zero
def rPutL (rs : RL) (b : List UInt8) : RL := if rPutE rs b = 0 ∧ ¬ 0 ≤ rFind rs (shaD b) then rs ++ [(shaD b, b)] else rs
theorem rPutL_same {rs : RL} {b : List UInt8} (h : rPutE rs b ≠ 0 ∨ 0 ≤ rFind rs (shaD b)) : rPutL rs b = rs := by
 rw [rPutL, if_neg (by rintro ⟨h1, h2⟩; rcases h with h | h; exact h h1; exact h2 h)]
theorem rPutD_no {rs : RL} {b : List UInt8} (h : rPutE rs b ≠ 0) : rPutD rs b = Dig.zero := if_neg h
theorem rPutD_ok {rs : RL} {b : List UInt8} (h : rPutE rs b = 0) : rPutD rs b = shaD b := if_pos h
theorem rFind_pos {rs : RL} {d : Dig} (h : 0 ≤ rFind rs d) : ∃ j e c, rAt rs d = some (j, e, c) ∧ rFind rs d = (j : Int) ∧ rGetB rs d = c := by
 cases hp : rAt rs d with
 | some p => obtain ⟨j, e, c⟩ := p; exact ⟨j, e, c, rfl, by rw [rFind, hp], by rw [rGetB, hp]⟩
 | none => rw [rFind, hp] at h; exact absurd h de_
end Go.Pl
namespace Go.Proofs.YtfanmpbapabboaaGreatDoor
open Go.RowKit Go.Fw Go.Pl Go.Sort
set_option maxHeartbeats 2000000 in
theorem rPut_any (g : Nat) (u v : Value) (rs : RL) (b : List UInt8) (w : World) (hR : RAt w g u v rs) : Calls Tryz.prog 27 #[.pointer (some ⟨g, 0, none⟩), .string (bs b)] w (Ret fun r w' => r = .tuple #[digV (rPutD rs b), .int .i64 (rPutE rs b)] ∧ (∃ u' v', RAt w' g u' v' (rPutL rs b) ∧ (∀ k, u'.ownBlock = some k → u.ownBlock = some k ∨ w.heap.size ≤ k) ∧ (∀ k, v'.ownBlock = some k → v.ownBlock = some k ∨ w.heap.size ≤ k)) ∧ Chg (fun k => k = g ∨ u.ownBlock = some k ∨ v.ownBlock = some k) w w') := by
 obtain ⟨A, m, c, rfl⟩ := hR.ids.lens
 obtain ⟨B, n, cb, rfl⟩ := hR.objs.lens
 have hm := (Own.len digC_length de_ hR.ids).1
 have hn := (Own.len strC_length de_ hR.objs).1
 rw [List.length_map] at hm hn
 have hfew := hR.few
 have hB0 := hR.blk
 have hgl := hB0.lt
 have hul := hR.ids.lt
 have hvl := hR.objs.lt
 have hnu := hR.nu
 have hnv := hR.nv
 have hbs := bs_size b
 obtain ⟨id, hid, hzd, _⟩ := info_apiDigest
 refine calls_of_CWct 63 4 32 [5] [(0, .pointer (some ⟨g, 0, none⟩)), (1, .string (bs b))] Tryz.func27 rfl rfl rfl Tryz.underlying38 rfl kr_ (by simp) args2 ?_
 have hE : Chg (fun k => k = g ∨ (Value.slice A m c).ownBlock = some k ∨ (Value.slice B n cb).ownBlock = some k) w w := Chg.refl
 refine CW.sr fun K1 hK1 => ?_
 refine WL.alloc (hid) (hzd) rfl de_ fun g4 w1 hx1 hg4 hB4 => ?_
 have hlt4 := hB4.lt; have hz1 := hx1.size
 have hM4 := hB4.mem; have hz1 := hx1.size; have hE := hE.thenExt hx1; have hR := hR.ext hx1; have hB0 := hB0.ext hx1
 refine WL.a rfl ?_
 refine WL.nil (hK1 _ _ ?_); try clear hK1
 refine CW.seq fun K2 hK2 => ?_
 refine CW.sr fun K3 hK3 => ?_
 refine WL.m rfl ?_
 refine WL.v (Y.len_string Tryz.underlying9 rfl) ?_
 refine WL.v (Y.gtr rfl rfl) ?_
 refine WL.nil (hK3 _ _ ?_); try clear hK3
 (first | refine cd_ rfl ?_ ?_ | refine ce_ rfl ?_ ?_ | refine cn_ rfl ?_ ?_ | refine cb_ rfl ?_ ?_) <;> intro ht4
 ·
  -- then
  refine CW.sr fun K5 hK5 => ?_
  refine WL.v (Y.build0 (build_apiDigest _)) ?_
  refine WL.store (g := g4) (pre := []) (old := digC Dig.zero) (post := []) (new := digC Dig.zero) rfl rfl rfl rfl (sz_apiDigest _) (by simpa using hB4) ln_ (one_digC) (fun w2 hc2 hB2_ => ?_)
  have hz2 := hc2.size; have hE := hE.stepO hc2 (fun k h => (by show (k = g ∨ (Value.slice A m c).ownBlock = some k ∨ (Value.slice B n cb).ownBlock = some k) ∨ _; omega)); have hR := hR.chg hc2 no_ (fun k hk h => by have := hul k hk; omega) (fun k hk h => by have := hvl k hk; omega); have hB0 := hB0.chg hc2 no_
  have hB4 : Blk w2 g4 TDi (digC Dig.zero) := by simpa using hB2_
  refine WL.a rfl ?_
  refine WL.nil (hK5 _ _ ?_); try clear hK5
  refine CW.ret ?_
  have he : rPutE rs b = 3 := by rw [rPutE, if_pos om_]
  exact ⟨_, _, _, rfl, hB4.mem, digC_length _, rfl, by rw [rPutD_no (by rw [he]; decide), he], ⟨_, _, by rw [rPutL_same (.inl (by rw [he]; decide))]; exact hR, fun k h => .inl h, fun k h => .inl h⟩, hE⟩
 refine CW.skip ?_
 refine hK2 _ _ ?_; try clear hK2
 refine CW.sr fun K6 hK6 => ?_
 refine WL.m rfl ?_
 refine WL.st (St.strBytes Tryz.underlying9 Tryz.underlying40 Tryz.underlying5 rfl om_) de_ fun v13 w3 hR3 => ?_
 obtain ⟨hO13, hx3, hf13⟩ := hR3
 have hz3 := hx3.size
 have hE := hE.thenExt hx3
 have hR := hR.ext hx3
 have hB0 := hB0.ext hx3
 have hB4 := hB4.ext hx3
 rw [bs_toList] at hO13
 refine WL.call Tryz.func53 rfl rfl rfl (rSum_any _ b _ hO13.by om_) (by simp) ?_; rintro v w4 ⟨rfl, hx4⟩; have hz4 := hx4.size; have hE := hE.thenExt hx4; have hR := hR.ext hx4; have hB0 := hB0.ext hx4; have hB4 := hB4.ext hx4
 refine as_apiDigest rfl (by simp) de_ fun g6 w5 hx5 hg6 hB6 => ?_
 have hlt6 := hB6.lt; have hz5 := hx5.size
 have hM6 := hB6.mem; have hz5 := hx5.size; have hE := hE.thenExt hx5; have hR := hR.ext hx5; have hB0 := hB0.ext hx5; have hB4 := hB4.ext hx5
 refine WL.nil (hK6 _ _ ?_); try clear hK6
 refine CW.sr fun K7 hK7 => ?_
 refine WL.m rfl ?_
 refine WL.v (Y.load Tryz.underlying38 rfl hB6.mem (sz_apiDigest _) rfl) ?_
 refine WL.call Tryz.func28 rfl rfl rfl (rFind_any g rs (shaD b) _ ⟨_, _, hR⟩) (by simp) ?_; rintro v w6 ⟨rfl, hx6⟩; have hz6 := hx6.size; have hE := hE.thenExt hx6; have hR := hR.ext hx6; have hB0 := hB0.ext hx6; have hB4 := hB4.ext hx6; have hB6 := hB6.ext hx6
 refine WL.a rfl ?_
 refine WL.nil (hK7 _ _ ?_); try clear hK7
 refine CW.seq fun K8 hK8 => ?_
 refine CW.seq_test 30 (0 ≤ rFind rs (shaD b) ∧ rGetB rs (shaD b) ≠ b) ?_ ?_
 ·
  refine CW.region ?_
  refine WL.m rfl ?_
  refine WL.v (Y.geq rfl rfl) ?_
  refine WL.m rfl ?_
  (first | refine WL.casesD (d := 20) rfl ?_ ?_ | refine WL.casesND (d := 20) rfl ?_ ?_ | refine WL.cases (d := 20) rfl ?_ ?_) <;> intro hg20
  ·
   -- t20 = T
   obtain ⟨j, dj, bj, hj, hfj, hgj⟩ := rFind_pos (rs := rs) (d := shaD b) (by assumption)
   obtain ⟨_, hjr, _⟩ := mfind_some hj
   rw [Nat.sub_zero] at hjr
   have hjl := (List.getElem?_eq_some_iff.1 hjr).1
   obtain ⟨a, rfl, hma⟩ := (hR.objs.sl strC_length de_).at (rs_snd hjr)
   rw [hfj]
   refine WL.g rfl rfl (Y.move rfl) ?_
   refine WL.g rfl rfl (Y.nilCheck rfl) ?_
   refine WL.g rfl rfl (Y.fieldAddr fo_recensionref11Store1 rfl) ?_
   refine WL.g rfl rfl (Y.load1 Tryz.underlying22 rfl hB0.mem.recensionref11Store1 rfl) ?_
   refine WL.g rfl rfl (Y.move rfl) ?_
   refine WL.g rfl rfl (Y.indexAddrN Tryz.underlying22 rfl rfl sz0_string om_) ?_
   refine WL.g rfl rfl (Y.load1 Tryz.underlying9 rfl hma.cell0 rfl) ?_
   refine WL.g rfl rfl (Y.move rfl) ?_
   refine WL.g rfl rfl (Y.neq_strD rfl rfl) ?_
   refine WL.v (Y.pick rfl rfl) ?_
   refine WL.nil ⟨⟨_, rfl, ?_⟩, rfl, Fr.okp⟩
   exact tst_ok
  ·
   -- t20 = F
   refine WL.o rfl rfl ?_
   refine WL.o rfl rfl ?_
   refine WL.o rfl rfl ?_
   refine WL.o rfl rfl ?_
   refine WL.o rfl rfl ?_
   refine WL.o rfl rfl ?_
   refine WL.o rfl rfl ?_
   refine WL.o rfl rfl ?_
   refine WL.o rfl rfl ?_
   refine WL.v (Y.pick rfl rfl) ?_
   refine WL.nil ⟨⟨_, rfl, ?_⟩, rfl, Fr.okp⟩
   exact tst_ok
 (first | refine cd_ rfl ?_ ?_ | refine ce_ rfl ?_ ?_ | refine cn_ rfl ?_ ?_ | refine cb_ rfl ?_ ?_) <;> intro ht9
 ·
  -- then
  refine CW.sr fun K10 hK10 => ?_
  refine WL.v (Y.build0 (build_apiDigest _)) ?_
  refine WL.store (g := g4) (pre := []) (old := digC Dig.zero) (post := []) (new := digC Dig.zero) rfl rfl rfl rfl (sz_apiDigest _) (by simpa using hB4) ln_ (one_digC) (fun w7 hc7 hB7_ => ?_)
  have hz7 := hc7.size; have hE := hE.stepO hc7 (fun k h => (by show (k = g ∨ (Value.slice A m c).ownBlock = some k ∨ (Value.slice B n cb).ownBlock = some k) ∨ _; omega)); have hR := hR.chg hc7 no_ (fun k hk h => by have := hul k hk; omega) (fun k hk h => by have := hvl k hk; omega); have hB0 := hB0.chg hc7 no_; have hB6 := hB6.chg hc7 no_
  have hB4 : Blk w7 g4 TDi (digC Dig.zero) := by simpa using hB7_
  refine WL.a rfl ?_
  refine WL.nil (hK10 _ _ ?_); try clear hK10
  refine CW.ret ?_
  have he : rPutE rs b = 10 := by rw [rPutE, if_neg om_, if_pos (And.left (by assumption)), if_neg (And.right (by assumption))]
  exact ⟨_, _, _, rfl, hB4.mem, digC_length _, rfl, by rw [rPutD_no (by rw [he]; decide), he], ⟨_, _, by rw [rPutL_same (.inl (by rw [he]; decide))]; exact hR, fun k h => .inl h, fun k h => .inl h⟩, hE⟩
 refine CW.skip ?_
 refine hK8 _ _ ?_; try clear hK8
 refine CW.seq fun K11 hK11 => ?_
 refine CW.sr fun K12 hK12 => ?_
 refine WL.m rfl ?_
 refine WL.v (Y.geq rfl rfl) ?_
 refine WL.nil (hK12 _ _ ?_); try clear hK12
 (first | refine cd_ rfl ?_ ?_ | refine ce_ rfl ?_ ?_ | refine cn_ rfl ?_ ?_ | refine cb_ rfl ?_ ?_) <;> intro ht13
 ·
  -- then
  refine CW.sr fun K14 hK14 => ?_
  refine WL.v (Y.load Tryz.underlying38 rfl hB6.mem (sz_apiDigest _) rfl) ?_
  refine WL.store (g := g4) (pre := []) (old := digC Dig.zero) (post := []) (new := digC (shaD b)) rfl rfl rfl rfl (sz_apiDigest _) (by simpa using hB4) ln_ (one_digC) (fun w8 hc8 hB8_ => ?_)
  have hz8 := hc8.size; have hE := hE.stepO hc8 (fun k h => (by show (k = g ∨ (Value.slice A m c).ownBlock = some k ∨ (Value.slice B n cb).ownBlock = some k) ∨ _; omega)); have hR := hR.chg hc8 no_ (fun k hk h => by have := hul k hk; omega) (fun k hk h => by have := hvl k hk; omega); have hB0 := hB0.chg hc8 no_; have hB6 := hB6.chg hc8 no_
  have hB4 : Blk w8 g4 TDi (digC (shaD b)) := by simpa using hB8_
  refine WL.a rfl ?_
  refine WL.nil (hK14 _ _ ?_); try clear hK14
  refine CW.ret ?_
  have he : rPutE rs b = 0 := by
   have hs : 0 ≤ rFind rs (shaD b) := by assumption
   rw [rPutE, if_neg om_, if_pos hs, if_pos (Decidable.not_not.1 fun x => (by assumption : ¬ (0 ≤ rFind rs (shaD b) ∧ rGetB rs (shaD b) ≠ b)) ⟨hs, x⟩)]
  exact ⟨_, _, _, rfl, hB4.mem, digC_length _, rfl, by rw [rPutD_ok he, he], ⟨_, _, by rw [rPutL_same (.inr (by assumption))]; exact hR, fun k h => .inl h, fun k h => .inl h⟩, hE⟩
 refine CW.skip ?_
 refine hK11 _ _ ?_; try clear hK11
 refine CW.seq fun K15 hK15 => ?_
 refine CW.sr fun K16 hK16 => ?_
 refine WL.m rfl ?_
 refine WL.v (Y.nilCheck rfl) ?_
 refine WL.v (Y.fieldAddr fo_recensionref11Store0 rfl) ?_
 refine WL.v (Y.load1 Tryz.underlying23 rfl hB0.mem.recensionref11Store0 rfl) ?_
 refine WL.v (Y.len_slice Tryz.underlying23 rfl) ?_
 refine WL.v (Y.geq rfl rfl) ?_
 refine WL.nil (hK16 _ _ ?_); try clear hK16
 (first | refine cd_ rfl ?_ ?_ | refine ce_ rfl ?_ ?_ | refine cn_ rfl ?_ ?_ | refine cb_ rfl ?_ ?_) <;> intro ht17
 ·
  -- then
  refine CW.sr fun K18 hK18 => ?_
  refine WL.v (Y.build0 (build_apiDigest _)) ?_
  refine WL.store (g := g4) (pre := []) (old := digC Dig.zero) (post := []) (new := digC Dig.zero) rfl rfl rfl rfl (sz_apiDigest _) (by simpa using hB4) ln_ (one_digC) (fun w9 hc9 hB9_ => ?_)
  have hz9 := hc9.size; have hE := hE.stepO hc9 (fun k h => (by show (k = g ∨ (Value.slice A m c).ownBlock = some k ∨ (Value.slice B n cb).ownBlock = some k) ∨ _; omega)); have hR := hR.chg hc9 no_ (fun k hk h => by have := hul k hk; omega) (fun k hk h => by have := hvl k hk; omega); have hB0 := hB0.chg hc9 no_; have hB6 := hB6.chg hc9 no_
  have hB4 : Blk w9 g4 TDi (digC Dig.zero) := by simpa using hB9_
  refine WL.a rfl ?_
  refine WL.nil (hK18 _ _ ?_); try clear hK18
  refine CW.ret ?_
  have he : rPutE rs b = 14 := by rw [rPutE, if_neg om_, if_neg (by assumption), if_pos om_]
  exact ⟨_, _, _, rfl, hB4.mem, digC_length _, rfl, by rw [rPutD_no (by rw [he]; decide), he], ⟨_, _, by rw [rPutL_same (.inl (by rw [he]; decide))]; exact hR, fun k h => .inl h, fun k h => .inl h⟩, hE⟩
 refine CW.skip ?_
 refine hK15 _ _ ?_; try clear hK15
 refine CW.seq fun K19 hK19 => ?_
 refine CW.held (fun wq => Chg (fun k => k = g ∨ (Value.slice A m c).ownBlock = some k) w6 wq) kr_ 11 rfl fun w10 hx10 => ?_
 have hS : Chg (fun k => k = g ∨ (Value.slice A m c).ownBlock = some k) w6 w10 := hx10.chg
 have hz10 := hx10.size
 have hB0 := hB0.ext hx10
 have hI := hR.ids.ext hx10
 refine RH.tk 0 hS rfl (fun wq hq => Y.move rfl) ?_
 refine RH.tk 1 hS rfl (fun wq hq => Y.move rfl) ?_
 refine RH.tk 2 hS rfl (fun wq hq => Y.nilCheck rfl) ?_
 refine RH.tk 3 hS rfl (fun wq hq => Y.fieldAddr fo_recensionref11Store0 rfl) ?_
 refine RH.tk 5 hS rfl (fun wq hq => Y.load Tryz.underlying38 rfl (hB6.chg hq (fun h => by rcases h with h | h; omega; have := hul _ h; omega)).mem (sz_apiDigest _) rfl) ?_
 refine RH.two 4 6 kr_ ?_ ?_
 ·
  skip
  refine RS.val rfl (Y.load1 Tryz.underlying23 rfl hB0.mem.recensionref11Store0 rfl) de_ ⟨hS, ?_⟩
  refine RH.one 6 kr_ ?_
  refine RS.st rfl (St.buildSlice rfl (bs1_dig _)) de_ fun v48 w11 hR11 => ?_
  obtain ⟨g48, rfl, hg48, hB48, hx11⟩ := hR11
  have hz11 := hx11.size
  have hS := hS.thenExt hx11
  have hI := hI.ext hx11
  have hB0 := hB0.ext hx11
  refine ⟨hS, ?_⟩
  refine RH.one 7 kr_ ?_
  refine RS.st rfl (St.append Tryz.underlying23 Tryz.underlying23 ai_dig rfl rfl hI (Src.one hB48 (digC_length _)) one_digC (by rw [flat_length digC_length, List.length_map]; omega)) de_ fun v49 w12 hR12 => ?_
  obtain ⟨hI12, hc12, hf12⟩ := hR12
  have hz12 := hc12.size
  have hS := hS.trans hc12 (fun k _ h => .inr h)
  have hB0 := hB0.chg hc12 (fun h => (hnu _ h).1 rfl)
  have hun : ∀ k, v49.ownBlock = some k → k ≠ g ∧ (Value.slice B n cb).ownBlock ≠ some k ∧ ((Value.slice A m c).ownBlock = some k ∨ w.heap.size ≤ k) ∧ k ≠ g4 := by
   rcases hf12 with h | h
   ·
    intro k hk; rw [h] at hk; exact ⟨(hnu k hk).1, (hnu k hk).2, .inl hk, by have := hul k hk; omega⟩
   ·
    intro k hk; have := h k hk; exact ⟨by omega, fun hv => by have := hvl k hv; omega, .inr om_, by omega⟩
  obtain ⟨A2, m2, c2, rfl⟩ := hI12.lens
  refine ⟨hS, ?_⟩
  refine RH.tk 8 hS rfl (fun wq hq => Y.nilCheck rfl) ?_
  refine RH.tk 9 hS rfl (fun wq hq => Y.fieldAddr fo_recensionref11Store0 rfl) ?_
  refine RH.one 10 kr_ ?_
  refine RS.store rfl (g := g) (pre := []) (old := [.slice A m c]) (post := [.slice B n cb]) (new := [.slice A2 m2 c2]) rfl rfl rfl rfl kr_ (by simpa using hB0) rfl (one1 rfl) (fun w13 hc13 hB13_ => ?_)
  have hB0 : Blk w13 g TRS [.slice A2 m2 c2, .slice B n cb] := by simpa using hB13_
  have hI2 := hI12.chg hc13 (fun k hk h => (hun k hk).1 h)
  have hS := hS.trans hc13 (fun k _ h => .inl h)
  have hzS := hS.size
  refine ⟨hS, ?_⟩
  refine RH.done kr_ ?_
  have hE := hE.stepO hS (fun k h => .inl (by rcases h with h | h; exact .inl h; exact .inr (.inl h)))
  have hB4 := hB4.chg hS (fun h => by rcases h with h | h; omega; have := hul _ h; omega)
  have hB6 := hB6.chg hS (fun h => by rcases h with h | h; omega; have := hul _ h; omega)
  have hJ := hR.objs.chg hS (fun k hk h => by rcases h with h | h; exact hnv k hk h; exact (hnu k h).2 hk)
  refine hK19 _ _ ?_; try clear hK19
  refine CW.sr fun K20 hK20 => ?_
  refine WL.m rfl ?_
  refine WL.m rfl ?_
  refine WL.v (Y.nilCheck rfl) ?_
  refine WL.v (Y.fieldAddr fo_recensionref11Store1 rfl) ?_
  refine WL.v (Y.load1 Tryz.underlying22 rfl hB0.mem.recensionref11Store1 rfl) ?_
  refine WL.m rfl ?_
  refine WL.st (St.buildSlice rfl (bs1_str _)) de_ fun v58 w14 hR14 => ?_
  obtain ⟨g58, rfl, hg58, hB58, hx14⟩ := hR14
  have hz14 := hx14.size
  have hE := hE.thenExt hx14
  have hJ := hJ.ext hx14
  have hI2 := hI2.ext hx14
  have hB0 := hB0.ext hx14
  have hB4 := hB4.ext hx14
  have hB6 := hB6.ext hx14
  have hIl := hI2.lt
  refine WL.st (St.append Tryz.underlying22 Tryz.underlying22 ai_str rfl rfl hJ (Src.one hB58 rfl) (one1 rfl) (by rw [flat_length strC_length, List.length_map]; omega)) de_ fun v59 w15 hR15 => ?_
  obtain ⟨hJ15, hc15, hf15⟩ := hR15
  have hz15 := hc15.size
  have hE := hE.stepO hc15 (fun k h => .inl (.inr (.inr h)))
  have hB0 := hB0.chg hc15 (fun h => hnv _ h rfl)
  have hB4 := hB4.chg hc15 (fun h => by have := hvl _ h; omega)
  have hB6 := hB6.chg hc15 (fun h => by have := hvl _ h; omega)
  have hI2 := hI2.chg hc15 (fun k hk h => (hun k hk).2.1 h)
  have hvn : ∀ k, v59.ownBlock = some k → k ≠ g ∧ (Value.slice A2 m2 c2).ownBlock ≠ some k ∧ ((Value.slice B n cb).ownBlock = some k ∨ w.heap.size ≤ k) ∧ k ≠ g4 := by
   rcases hf15 with h | h
   ·
    intro k hk; rw [h] at hk; exact ⟨hnv k hk, fun hu => (hun k hu).2.1 hk, .inl hk, by have := hvl k hk; omega⟩
   ·
    intro k hk; have := h k hk; exact ⟨by omega, fun hv => by have := hIl k hv; omega, .inr om_, by omega⟩
  obtain ⟨B2, n2, cb2, rfl⟩ := hJ15.lens
  refine WL.v (Y.nilCheck rfl) ?_
  refine WL.v (Y.fieldAddr fo_recensionref11Store1 rfl) ?_
  refine WL.store (g := g) (pre := [.slice A2 m2 c2]) (old := [.slice B n cb]) (post := []) (new := [.slice B2 n2 cb2]) rfl rfl rfl rfl kr_ (by simpa using hB0) ln_ (one1 rfl) (fun w16 hc16 hB16_ => ?_)
  have hz16 := hc16.size; have hE := hE.stepO hc16 (fun k h => (by show (k = g ∨ (Value.slice A m c).ownBlock = some k ∨ (Value.slice B n cb).ownBlock = some k) ∨ _; omega)); have hB4 := hB4.chg hc16 no_; have hB6 := hB6.chg hc16 no_
  have hB0 : Blk w16 g TRS [.slice A2 m2 c2, .slice B2 n2 cb2] := by simpa using hB16_
  have hI2 := hI2.chg hc16 (fun k hk h => (hun k hk).1 h)
  have hJ2 := hJ15.chg hc16 (fun k hk h => (hvn k hk).1 h)
  have hIl := hI2.lt
  have hJl := hJ2.lt
  refine WL.nil (hK20 _ _ ?_); try clear hK20
  refine CW.sr fun K21 hK21 => ?_
  refine WL.v (Y.load Tryz.underlying38 rfl hB6.mem (sz_apiDigest _) rfl) ?_
  refine WL.store (g := g4) (pre := []) (old := digC Dig.zero) (post := []) (new := digC (shaD b)) rfl rfl rfl rfl (sz_apiDigest _) (by simpa using hB4) ln_ (one_digC) (fun w17 hc17 hB17_ => ?_)
  have hz17 := hc17.size; have hE := hE.stepO hc17 (fun k h => (by show (k = g ∨ (Value.slice A m c).ownBlock = some k ∨ (Value.slice B n cb).ownBlock = some k) ∨ _; omega)); have hB6 := hB6.chg hc17 no_
  have hB4 : Blk w17 g4 TDi (digC (shaD b)) := by simpa using hB17_
  have hB0 := hB0.chg hc17 no_
  have hI2 := hI2.chg hc17 (fun k hk h => (hun k hk).2.2.2 h)
  have hJ2 := hJ2.chg hc17 (fun k hk h => (hvn k hk).2.2.2 h)
  refine WL.a rfl ?_
  refine WL.nil (hK21 _ _ ?_); try clear hK21
  refine CW.ret ?_
  have hfd : ¬ 0 ≤ rFind rs (shaD b) := by assumption
  have he : rPutE rs b = 0 := by rw [rPutE, if_neg om_, if_neg hfd, if_neg om_]
  have hL : rPutL rs b = rs ++ [(shaD b, b)] := by rw [rPutL, if_pos ⟨he, hfd⟩]
  exact ⟨_, _, _, rfl, hB4.mem, digC_length _, rfl, by rw [rPutD_ok he, he], ⟨_, _, ⟨hB0, by rw [hL]; simpa [flatD] using hI2, by rw [hL]; simpa [flatS, strC] using hJ2, fun k hk => ⟨(hun k hk).1, fun hv => (hvn k hv).2.1 hk⟩, fun k hk => (hvn k hk).1, by rw [hL, List.length_append, List.length_singleton]; omega, fun p hp => by
   rw [hL] at hp
   rcases List.mem_append.1 hp with hp | hp
   ·
    exact hR.short p hp
   ·
    simp at hp; subst hp; show b.length ≤ 131072; omega⟩, fun k hk => (hun k hk).2.2.1, fun k hk => (hvn k hk).2.2.1⟩, hE⟩
 ·
  skip
  refine RS.st rfl (St.buildSlice rfl (bs1_dig _)) de_ fun v48 w18 hR18 => ?_
  obtain ⟨g48, rfl, hg48, hB48, hx18⟩ := hR18
  have hz18 := hx18.size
  have hS := hS.thenExt hx18
  have hI := hI.ext hx18
  have hB0 := hB0.ext hx18
  refine ⟨hS, ?_⟩
  refine RH.one 4 kr_ ?_
  refine RS.val rfl (Y.load1 Tryz.underlying23 rfl hB0.mem.recensionref11Store0 rfl) de_ ⟨hS, ?_⟩
  refine RH.one 7 kr_ ?_
  refine RS.st rfl (St.append Tryz.underlying23 Tryz.underlying23 ai_dig rfl rfl hI (Src.one hB48 (digC_length _)) one_digC (by rw [flat_length digC_length, List.length_map]; omega)) de_ fun v49 w19 hR19 => ?_
  obtain ⟨hI19, hc19, hf19⟩ := hR19
  have hz19 := hc19.size
  have hS := hS.trans hc19 (fun k _ h => .inr h)
  have hB0 := hB0.chg hc19 (fun h => (hnu _ h).1 rfl)
  have hun : ∀ k, v49.ownBlock = some k → k ≠ g ∧ (Value.slice B n cb).ownBlock ≠ some k ∧ ((Value.slice A m c).ownBlock = some k ∨ w.heap.size ≤ k) ∧ k ≠ g4 := by
   rcases hf19 with h | h
   ·
    intro k hk; rw [h] at hk; exact ⟨(hnu k hk).1, (hnu k hk).2, .inl hk, by have := hul k hk; omega⟩
   ·
    intro k hk; have := h k hk; exact ⟨by omega, fun hv => by have := hvl k hv; omega, .inr om_, by omega⟩
  obtain ⟨A2, m2, c2, rfl⟩ := hI19.lens
  refine ⟨hS, ?_⟩
  refine RH.tk 8 hS rfl (fun wq hq => Y.nilCheck rfl) ?_
  refine RH.tk 9 hS rfl (fun wq hq => Y.fieldAddr fo_recensionref11Store0 rfl) ?_
  refine RH.one 10 kr_ ?_
  refine RS.store rfl (g := g) (pre := []) (old := [.slice A m c]) (post := [.slice B n cb]) (new := [.slice A2 m2 c2]) rfl rfl rfl rfl kr_ (by simpa using hB0) rfl (one1 rfl) (fun w20 hc20 hB20_ => ?_)
  have hB0 : Blk w20 g TRS [.slice A2 m2 c2, .slice B n cb] := by simpa using hB20_
  have hI2 := hI19.chg hc20 (fun k hk h => (hun k hk).1 h)
  have hS := hS.trans hc20 (fun k _ h => .inl h)
  have hzS := hS.size
  refine ⟨hS, ?_⟩
  refine RH.done kr_ ?_
  have hE := hE.stepO hS (fun k h => .inl (by rcases h with h | h; exact .inl h; exact .inr (.inl h)))
  have hB4 := hB4.chg hS (fun h => by rcases h with h | h; omega; have := hul _ h; omega)
  have hB6 := hB6.chg hS (fun h => by rcases h with h | h; omega; have := hul _ h; omega)
  have hJ := hR.objs.chg hS (fun k hk h => by rcases h with h | h; exact hnv k hk h; exact (hnu k h).2 hk)
  refine hK19 _ _ ?_; try clear hK19
  refine CW.sr fun K22 hK22 => ?_
  refine WL.m rfl ?_
  refine WL.m rfl ?_
  refine WL.v (Y.nilCheck rfl) ?_
  refine WL.v (Y.fieldAddr fo_recensionref11Store1 rfl) ?_
  refine WL.v (Y.load1 Tryz.underlying22 rfl hB0.mem.recensionref11Store1 rfl) ?_
  refine WL.m rfl ?_
  refine WL.st (St.buildSlice rfl (bs1_str _)) de_ fun v58 w21 hR21 => ?_
  obtain ⟨g58, rfl, hg58, hB58, hx21⟩ := hR21
  have hz21 := hx21.size
  have hE := hE.thenExt hx21
  have hJ := hJ.ext hx21
  have hI2 := hI2.ext hx21
  have hB0 := hB0.ext hx21
  have hB4 := hB4.ext hx21
  have hB6 := hB6.ext hx21
  have hIl := hI2.lt
  refine WL.st (St.append Tryz.underlying22 Tryz.underlying22 ai_str rfl rfl hJ (Src.one hB58 rfl) (one1 rfl) (by rw [flat_length strC_length, List.length_map]; omega)) de_ fun v59 w22 hR22 => ?_
  obtain ⟨hJ22, hc22, hf22⟩ := hR22
  have hz22 := hc22.size
  have hE := hE.stepO hc22 (fun k h => .inl (.inr (.inr h)))
  have hB0 := hB0.chg hc22 (fun h => hnv _ h rfl)
  have hB4 := hB4.chg hc22 (fun h => by have := hvl _ h; omega)
  have hB6 := hB6.chg hc22 (fun h => by have := hvl _ h; omega)
  have hI2 := hI2.chg hc22 (fun k hk h => (hun k hk).2.1 h)
  have hvn : ∀ k, v59.ownBlock = some k → k ≠ g ∧ (Value.slice A2 m2 c2).ownBlock ≠ some k ∧ ((Value.slice B n cb).ownBlock = some k ∨ w.heap.size ≤ k) ∧ k ≠ g4 := by
   rcases hf22 with h | h
   ·
    intro k hk; rw [h] at hk; exact ⟨hnv k hk, fun hu => (hun k hu).2.1 hk, .inl hk, by have := hvl k hk; omega⟩
   ·
    intro k hk; have := h k hk; exact ⟨by omega, fun hv => by have := hIl k hv; omega, .inr om_, by omega⟩
  obtain ⟨B2, n2, cb2, rfl⟩ := hJ22.lens
  refine WL.v (Y.nilCheck rfl) ?_
  refine WL.v (Y.fieldAddr fo_recensionref11Store1 rfl) ?_
  refine WL.store (g := g) (pre := [.slice A2 m2 c2]) (old := [.slice B n cb]) (post := []) (new := [.slice B2 n2 cb2]) rfl rfl rfl rfl kr_ (by simpa using hB0) ln_ (one1 rfl) (fun w23 hc23 hB23_ => ?_)
  have hz23 := hc23.size; have hE := hE.stepO hc23 (fun k h => (by show (k = g ∨ (Value.slice A m c).ownBlock = some k ∨ (Value.slice B n cb).ownBlock = some k) ∨ _; omega)); have hB4 := hB4.chg hc23 no_; have hB6 := hB6.chg hc23 no_
  have hB0 : Blk w23 g TRS [.slice A2 m2 c2, .slice B2 n2 cb2] := by simpa using hB23_
  have hI2 := hI2.chg hc23 (fun k hk h => (hun k hk).1 h)
  have hJ2 := hJ22.chg hc23 (fun k hk h => (hvn k hk).1 h)
  have hIl := hI2.lt
  have hJl := hJ2.lt
  refine WL.nil (hK22 _ _ ?_); try clear hK22
  refine CW.sr fun K23 hK23 => ?_
  refine WL.v (Y.load Tryz.underlying38 rfl hB6.mem (sz_apiDigest _) rfl) ?_
  refine WL.store (g := g4) (pre := []) (old := digC Dig.zero) (post := []) (new := digC (shaD b)) rfl rfl rfl rfl (sz_apiDigest _) (by simpa using hB4) ln_ (one_digC) (fun w24 hc24 hB24_ => ?_)
  have hz24 := hc24.size; have hE := hE.stepO hc24 (fun k h => (by show (k = g ∨ (Value.slice A m c).ownBlock = some k ∨ (Value.slice B n cb).ownBlock = some k) ∨ _; omega)); have hB6 := hB6.chg hc24 no_
  have hB4 : Blk w24 g4 TDi (digC (shaD b)) := by simpa using hB24_
  have hB0 := hB0.chg hc24 no_
  have hI2 := hI2.chg hc24 (fun k hk h => (hun k hk).2.2.2 h)
  have hJ2 := hJ2.chg hc24 (fun k hk h => (hvn k hk).2.2.2 h)
  refine WL.a rfl ?_
  refine WL.nil (hK23 _ _ ?_); try clear hK23
  refine CW.ret ?_
  have hfd : ¬ 0 ≤ rFind rs (shaD b) := by assumption
  have he : rPutE rs b = 0 := by rw [rPutE, if_neg om_, if_neg hfd, if_neg om_]
  have hL : rPutL rs b = rs ++ [(shaD b, b)] := by rw [rPutL, if_pos ⟨he, hfd⟩]
  exact ⟨_, _, _, rfl, hB4.mem, digC_length _, rfl, by rw [rPutD_ok he, he], ⟨_, _, ⟨hB0, by rw [hL]; simpa [flatD] using hI2, by rw [hL]; simpa [flatS, strC] using hJ2, fun k hk => ⟨(hun k hk).1, fun hv => (hvn k hv).2.1 hk⟩, fun k hk => (hvn k hk).1, by rw [hL, List.length_append, List.length_singleton]; omega, fun p hp => by
   rw [hL] at hp
   rcases List.mem_append.1 hp with hp | hp
   ·
    exact hR.short p hp
   ·
    simp at hp; subst hp; show b.length ≤ 131072; omega⟩, fun k hk => (hun k hk).2.2.1, fun k hk => (hvn k hk).2.2.1⟩, hE⟩
end Go.Proofs.YtfanmpbapabboaaGreatDoor
/- The reference's store: Drop, walked. No condition. -/
namespace Go.Pl
open Go.Fw
def skipL (rs : RL) (f : Int) (x : Nat) : RL := if 0 ≤ f ∧ f < x then (rs.take x).eraseIdx f.toNat else rs.take x
def rDropL (rs : RL) (d : Dig) : RL := skipL rs (rFind rs d) rs.length
end Go.Pl
namespace Go.Proofs.YtfanmpbapabboaaGreatDoor
open Go.RowKit Go.Fw Go.Pl Go.Sort
end Go.Proofs.YtfanmpbapabboaaGreatDoor
/- The reference's store: Copy, walked. No condition. -/
namespace Go.Fw
theorem St.box {P : Program} {n : NN} {fr : Fr} {w : World} {ty t : TypeId} {x : Operand} {v : Value} {cs : List Value} (hx : ev fr x = some v) (hv : v.cells = cs.toArray) :
  St P n fr (.box t x) ty w (fun v' w' => ∃ g, v' = .pointer (some ⟨g, 0, none⟩) ∧ w.heap.size ≤ g ∧ Blk w' g t cs ∧ Ext w w') := fun a o' ho hty ha => by
 refine ⟨_, w.alloc (.cells cs.toArray t), ?_, w.heap.size, rfl, Nat.le_refl _, Blk.new w t cs, Chg.alloc _⟩
 simp [execOp, ho, ha.ev hx, Instr.box, newVar, newRow, hv]
end Go.Fw
namespace Go.Proofs.YtfanmpbapabboaaGreatDoor
open Go.RowKit Go.Fw Go.Pl Go.Sort
end Go.Proofs.YtfanmpbapabboaaGreatDoor
/- A store's Copy, walked. No condition. -/
namespace Go.Pl
open Go.Fw
abbrev Ent.kvb (e : Ent) : Dig × Value × List UInt8 := (e.k, e.v, e.b)
end Go.Pl
namespace Go.Proofs.YtfanmpbapabboaaGreatDoor
open Go.RowKit Go.Fw Go.Pl Go.Sort
end Go.Proofs.YtfanmpbapabboaaGreatDoor
/- A store and the reference's store that hold the same: the plain law of StorePlays. No condition; no program. -/
namespace Go.Proofs.YtfanmpbapabboaaGreatDoor
open Go.RowKit Go.Fw Go.Pl Go.Sort
def rval (rs : RL) (d : Dig) : Option (List UInt8) := (rAt rs d).map fun p => p.2.2
abbrev RKeys (rs : RL) : Prop := (rs.map Prod.fst).Nodup
theorem rval_iff {rs : RL} (h : RKeys rs) {d : Dig} {x : List UInt8} : rval rs d = some x ↔ (d, x) ∈ rs := by
 constructor
 ·
  intro hv
  obtain ⟨⟨j, e⟩, hp, rfl⟩ := Option.map_eq_some_iff.1 hv
  obtain ⟨_, hj, hk⟩ := mfind_some hp
  rw [← hk]
  exact List.mem_of_getElem? hj
 ·
  intro he
  cases hp : rAt rs d with
  | none => exact absurd rfl (mfind_none hp _ he)
  | some p =>
   obtain ⟨j, f⟩ := p
   obtain ⟨_, hj, hk⟩ := mfind_some hp
   rw [Nat.sub_zero] at hj
   obtain ⟨i, hi⟩ := List.mem_iff_getElem?.1 he
   have hil := (List.getElem?_eq_some_iff.1 hi).1
   have h1 : (rs.map Prod.fst)[i]? = some d := by simp [hi]
   have h2 : (rs.map Prod.fst)[j]? = some d := by simp [hj, hk]
   have := (List.getElem?_inj (by simpa using hil) h).1 (h1.trans h2.symm)
   subst this
   rw [hi] at hj; cases hj
   simp [rval, hp]
structure Like (l : List Ent) (rs : RL) : Prop where
 keys : Unlike l
 rkeys : RKeys rs
 val : ∀ d, valOf l d = rval rs d
theorem Like.nil : Like [] [] := ⟨List.nodup_nil, List.nodup_nil, fun d => rfl⟩
abbrev Ent.kb (e : Ent) : Dig × List UInt8 := (e.k, e.b)
theorem Like.perm {l : List Ent} {rs : RL} (h : Like l rs) : (l.map Ent.kb).Perm rs := by
 refine (List.perm_ext_iff_of_nodup (pairs_nodup h.keys) ?_).2 fun ⟨d, x⟩ => ?_
 ·
  have := h.rkeys
  unfold RKeys List.Nodup at this
  rw [List.pairwise_map] at this
  exact this.imp fun hne e => hne (congrArg Prod.fst e)
 ·
  have h1 := valOf_iff h.keys (d := d) (x := x)
  rw [h.val, rval_iff h.rkeys] at h1
  rw [h1]
  simp only [List.mem_map, Prod.mk.injEq]
theorem Like.of_perm {l : List Ent} {rs : RL} (hk : Unlike l) (hp : (l.map Ent.kb).Perm rs) : Like l rs := by
 have hr : RKeys rs := by
  have := (hp.map Prod.fst).nodup_iff.1 (by rw [List.map_map]; exact hk)
  exact this
 refine ⟨hk, hr, fun d => ?_⟩
 have hi : ∀ x, valOf l d = some x ↔ rval rs d = some x := fun x => by
  rw [valOf_iff hk, rval_iff hr, ← hp.mem_iff]
  simp only [List.mem_map, Prod.mk.injEq]
 cases ha : valOf l d with
 | some x => exact ((hi x).1 ha).symm
 | none =>
  cases hb : rval rs d with
  | none => rfl
  | some x => rw [(hi x).2 hb] at ha; cases ha
theorem Like.len {l : List Ent} {rs : RL} (h : Like l rs) : l.length = rs.length := by simpa using h.perm.length_eq
theorem Like.getB {l : List Ent} {rs : RL} (h : Like l rs) (d : Dig) : getB l d = rGetB rs d := by
 have hv := h.val d
 unfold valOf rval at hv
 unfold Go.Proofs.YtfanmpbapabboaaGreatDoor.getB rGetB
 cases ha : at_ l d <;> cases hb : rAt rs d <;> simp [ha, hb] at hv ⊢
 exact hv
theorem Like.isSome {l : List Ent} {rs : RL} (h : Like l rs) (d : Dig) : (at_ l d).isSome = true ↔ 0 ≤ rFind rs d := by
 have hv := h.val d
 unfold valOf rval at hv
 unfold rFind
 cases ha : at_ l d <;> cases hb : rAt rs d <;> simp [ha, hb] at hv ⊢
theorem Like.getI {l : List Ent} {rs : RL} (h : Like l rs) (d : Dig) : getI l d = rGetI rs d := by
 have hv := h.val d
 unfold valOf rval at hv
 unfold Go.Proofs.YtfanmpbapabboaaGreatDoor.getI rGetI
 cases ha : at_ l d <;> cases hb : rAt rs d <;> simp [ha, hb] at hv ⊢
theorem Like.putE {l : List Ent} {rs : RL} (h : Like l rs) (b : List UInt8) : putE l b = rPutE rs b := by
 unfold Go.Proofs.YtfanmpbapabboaaGreatDoor.putE rPutE
 have h1 := h.isSome (shaD b)
 rw [h.getB, h.len]
 by_cases hs : (at_ l (shaD b)).isSome = true
 ·
  rw [if_pos hs, if_pos (h1.1 hs)]
 ·
  rw [if_neg hs, if_neg (fun x => hs (h1.2 x))]
theorem Like.put {l l' : List Ent} {rs : RL} {b : List UInt8} (h : Like l rs) (hk : Unlike l') (hP : PutL l b l') : Like l' (rPutL rs b) := by
 have h1 := h.isSome (shaD b)
 unfold PutL at hP
 rw [h.putE] at hP
 by_cases hs : (at_ l (shaD b)).isSome = true
 ·
  rw [if_neg (by rintro ⟨_, hn⟩; rw [hn] at hs; cases hs)] at hP
  subst hP
  rw [rPutL_same (.inr (h1.1 hs))]
  exact h
 ·
  have hn : at_ l (shaD b) = none := by simpa using hs
  by_cases he : rPutE rs b = 0
  ·
   rw [if_pos ⟨he, hn⟩] at hP
   obtain ⟨e, rfl, rfl', rfl''⟩ := hP
   rw [rPutL, if_pos ⟨he, fun x => hs (h1.2 x)⟩]
   refine Like.of_perm hk ?_
   rw [List.map_append]
   refine h.perm.append ?_
   simp [Ent.kb, rfl', rfl'']
  ·
   rw [if_neg (fun x => he x.1)] at hP
   subst hP
   rw [rPutL_same (.inl he)]
   exact h
theorem Like.copy {l l' : List Ent} {rs : RL} (h : Like l rs) (hk : Unlike l') (hp : (l'.map Ent.kvb).Perm (l.map Ent.kvb)) : Like l' rs := by
 refine Like.of_perm hk (List.Perm.trans ?_ h.perm)
 have := hp.map fun p => (p.1, p.2.2)
 simpa [List.map_map, Function.comp_def] using this
theorem kb_erase {l : List Ent} {d : Dig} (h : Unlike l) {p : Dig × List UInt8} : p ∈ (dropL l d).map Ent.kb ↔ p ∈ l.map Ent.kb ∧ p.1 ≠ d := by
 constructor
 ·
  intro hp
  obtain ⟨e, he, rfl⟩ := List.mem_map.1 hp
  refine ⟨List.mem_map.2 ⟨e, dropL_mem he, rfl⟩, fun hd => ?_⟩
  exact mfind_none (dropL_none (d := d) h) e he hd
 ·
  rintro ⟨hp, hd⟩
  obtain ⟨e, he, rfl⟩ := List.mem_map.1 hp
  refine List.mem_map.2 ⟨e, ?_, rfl⟩
  unfold dropL
  split
  ·
   rename_i q hq
   obtain ⟨j, f⟩ := q
   obtain ⟨_, hj, hk⟩ := mfind_some hq
   rw [Nat.sub_zero] at hj
   obtain ⟨i, hi⟩ := List.mem_iff_getElem?.1 he
   exact List.mem_eraseIdx_iff_getElem?.2 ⟨i, fun hij => hd (by subst hij; rw [hi] at hj; cases hj; exact hk), hi⟩
  ·
   exact he
theorem dropL_unlike {l : List Ent} {d : Dig} (h : Unlike l) : Unlike (dropL l d) := by
 unfold dropL
 split
 ·
  exact unlike_erase h
 ·
  exact h
theorem rDrop_is (rs : RL) (d : Dig) : rDropL rs d = match rAt rs d with | some p => rs.eraseIdx p.1 | none => rs := by
 unfold rDropL skipL rFind
 cases hp : rAt rs d with
 | none => rw [if_neg (by dsimp only; omega), List.take_length]
 | some p =>
  obtain ⟨_, hj, _⟩ := mfind_some hp
  rw [Nat.sub_zero] at hj
  have := (List.getElem?_eq_some_iff.1 hj).1
  dsimp only
  rw [if_pos om_, List.take_length, Int.toNat_natCast]
theorem rDrop_keys {rs : RL} {d : Dig} (h : RKeys rs) : RKeys (rDropL rs d) := by
 rw [rDrop_is]
 split
 ·
  exact List.Nodup.sublist ((List.eraseIdx_sublist _ _).map Prod.fst) h
 ·
  exact h
theorem rDrop_mem {rs : RL} {d : Dig} (h : RKeys rs) {p : Dig × List UInt8} : p ∈ rDropL rs d ↔ p ∈ rs ∧ p.1 ≠ d := by
 rw [rDrop_is]
 split
 ·
  rename_i q hq
  obtain ⟨j, f⟩ := q
  obtain ⟨_, hj, hk⟩ := mfind_some hq
  rw [Nat.sub_zero] at hj
  dsimp only
  rw [List.mem_eraseIdx_iff_getElem?]
  constructor
  ·
   rintro ⟨i, hne, hi⟩
   refine ⟨List.mem_of_getElem? hi, fun hd => hne ?_⟩
   have h1 : (rs.map Prod.fst)[i]? = some d := by simp [hi, hd]
   have h2 : (rs.map Prod.fst)[j]? = some d := by simp [hj, hk]
   exact (List.getElem?_inj (List.getElem?_eq_some_iff.1 h1).1 h).1 (h1.trans h2.symm)
  ·
   rintro ⟨hp, hd⟩
   obtain ⟨i, hi⟩ := List.mem_iff_getElem?.1 hp
   exact ⟨i, fun hij => hd (by subst hij; rw [hi] at hj; cases hj; exact hk), hi⟩
 ·
  rename_i hn
  exact ⟨fun hp => ⟨hp, mfind_none hn p hp⟩, fun hp => hp.1⟩
theorem Like.drop {l : List Ent} {rs : RL} (h : Like l rs) (d : Dig) : Like (dropL l d) (rDropL rs d) := by
 refine Like.of_perm (dropL_unlike h.keys) ((List.perm_ext_iff_of_nodup (pairs_nodup (dropL_unlike h.keys)) ?_).2 fun p => ?_)
 ·
  have := rDrop_keys (d := d) h.rkeys
  unfold RKeys List.Nodup at this
  rw [List.pairwise_map] at this
  exact this.imp fun hne e => hne (congrArg Prod.fst e)
 ·
  rw [kb_erase h.keys, rDrop_mem h.rkeys, h.perm.mem_iff]
end Go.Proofs.YtfanmpbapabboaaGreatDoor
/- Both answers about what some heads need: the plain part of PackReaches and PackKeeps. No condition; no program run. -/
namespace Go.Proofs.YtfanmpbapabboaaGreatDoor
open Go.RowKit Go.Fw Go.Pl Go.Sort
theorem one_flatDs (l : List Dig) : ∀ u ∈ flatD l, u.oneCell' = true := by
 intro u hu
 obtain ⟨c, hc, hu⟩ := List.mem_flatten.1 hu
 obtain ⟨d, _, rfl⟩ := List.mem_map.1 hc
 exact one_digC u hu
theorem rGetB_le {rs : RL} (h : ∀ p ∈ rs, p.2.length ≤ 131072) (d : Dig) : (rGetB rs d).length ≤ 131072 := by
 unfold rGetB
 split
 ·
  rename_i p hp
  obtain ⟨j, e⟩ := p
  obtain ⟨_, hj, _⟩ := mfind_some hp
  exact h e (List.mem_of_getElem? hj)
 ·
  exact Nat.zero_le _
def RcP (xs : List (List UInt8)) (hs : List Dig) (ys : List (List UInt8)) (e : Int) : Prop :=
 (TkErr xs e ∧ ys = []) ∨ ∃ l, Holds l xs ∧ (∀ b ∈ xs, b.length ≤ 131072) ∧ l.length ≤ 500 ∧ ((e = 5 ∧ ys = [] ∧ ∃ d, Rch l hs d ∧ ¬ okD l d) ∨ ∃ S, e = 0 ∧ ReachOk l hs S ∧ ys = S.map (getB l))
theorem holds_one {l k : List Ent} {xs : List (List UInt8)} (h : Holds l xs) (g : Holds k xs) (d : Dig) : valOf k d = valOf l d := by
 have hi : ∀ x, valOf k d = some x ↔ valOf l d = some x := fun x => by rw [h.val, g.val]
 cases ha : valOf l d with
 | some x => exact (hi x).2 ha
 | none =>
  cases hb : valOf k d with
  | none => rfl
  | some x => rw [(hi x).1 hb] at ha; cases ha
theorem putE_hold {l k : List Ent} {xs : List (List UInt8)} (h : Holds l xs) (g : Holds k xs) (hs : ∀ b ∈ xs, b.length ≤ 131072) (b : List UInt8) : putE l b = putE k b := by
 have hv := holds_one h g (shaD b)
 have h1 : (at_ l (shaD b)).isSome = (at_ k (shaD b)).isSome := by
  have h2 : ∀ l : List Ent, (at_ l (shaD b)).isSome = (valOf l (shaD b)).isSome := fun l => by rw [valOf, Option.isSome_map]
  rw [h2, h2, hv]
 have h3 : l.length = k.length := by rw [← namesL_length l, ← namesL_length k, holds_keys h hs, holds_keys g hs]
 unfold putE
 rw [h1, h3, getB_same hv]
theorem tkErr_at {xs : List (List UInt8)} {i j : Nat} {b : List UInt8} {l k : List Ent} (hi : xs[i]? = some b) (hl : Holds l (xs.take i)) (hs : ∀ x ∈ xs.take i, x.length ≤ 131072) (hf : l.length ≤ 500) (hne : putE l b ≠ 0)
  (hk : Holds k (xs.take j)) (ht : ∀ x ∈ xs.take j, x.length ≤ 131072) (hg : k.length ≤ 500) : j ≤ i := by
 rcases Nat.lt_or_ge i j with hij | hij
 ·
  have h2 : (xs.take j).take i = xs.take i := by rw [List.take_take, Nat.min_eq_left om_]
  exact absurd (holds_ok hk ht hg) (tkErr_no ⟨i, b, l, by rw [List.getElem?_take, if_pos hij]; exact hi, by rw [h2]; exact hl, by rw [h2]; exact hs, hf, rfl, hne⟩)
 ·
  exact hij
theorem tkErr_one {xs : List (List UInt8)} {e f : Int} (h : TkErr xs e) (g : TkErr xs f) : e = f := by
 obtain ⟨i, b, l, hi, hl, hs, hf, rfl, hne⟩ := h
 obtain ⟨j, c, k, hj, hk, ht, hg, rfl, hnf⟩ := g
 obtain rfl : i = j := Nat.le_antisymm (tkErr_at hj hk ht hg hnf hl hs hf) (tkErr_at hi hl hs hf hne hk ht hg)
 rw [hi] at hj
 cases hj
 exact putE_hold hl hk hs b
theorem okD_same {l k : List Ent} {d : Dig} (h : valOf k d = valOf l d) : okD k d ↔ okD l d := by rw [okD, okD, h]
theorem Rch.same {l k : List Ent} {hs : List Dig} (h : ∀ d, valOf k d = valOf l d) {d : Dig} (hr : Rch l hs d) : Rch k hs d := by
 induction hr with
 | head h1 => exact .head h1
 | par h1 h2 ih => exact .par ih (by rw [parD, getB_same (h _)]; exact h2)
theorem rcP_one {xs : List (List UInt8)} {hs : List Dig} {ys zs : List (List UInt8)} {e f : Int} (h : RcP xs hs ys e) (g : RcP xs hs zs f) : ys = zs ∧ e = f := by
 rcases h with ⟨h, rfl⟩ | ⟨l, hl, hb, hf, h⟩ <;> rcases g with ⟨g, rfl⟩ | ⟨k, hk, hb2, hf2, g⟩
 ·
  exact ⟨rfl, tkErr_one h g⟩
 ·
  exact absurd (holds_ok hk hb2 hf2) (tkErr_no h)
 ·
  exact absurd (holds_ok hl hb hf) (tkErr_no g)
 ·
  have hv := holds_one hl hk
  have hv2 := holds_one hk hl
  rcases h with ⟨rfl, rfl, d, hr, hd⟩ | ⟨S, rfl, hS, rfl⟩ <;> rcases g with ⟨rfl, rfl, d2, hr2, hd2⟩ | ⟨T, rfl, hT, rfl⟩
  ·
   exact ⟨rfl, rfl⟩
  ·
   exact absurd ((okD_same (hv d)).1 (hT.good (hr.same hv))) hd
  ·
   exact absurd ((okD_same (hv d2)).2 (hS.good (hr2.same hv2))) hd2
  ·
   obtain rfl : S = T := (hS.move fun d _ => hv d).one hT
   exact ⟨List.map_congr_left fun d _ => (getB_same (hv d)).symm, rfl⟩
theorem putL_ex {l : List Ent} (hk : Unlike l) (b : List UInt8) : ∃ l', PutL l b l' ∧ Unlike l' := by
 by_cases h : putE l b = 0 ∧ at_ l (shaD b) = none
 ·
  refine ⟨l ++ [⟨shaD b, .slice none 0 0, 0, b⟩], by rw [PutL, if_pos h]; exact ⟨_, rfl, rfl, rfl⟩, ?_⟩
  unfold Unlike
  rw [List.map_append]
  refine List.nodup_append.2 ⟨hk, by simp, fun a ha c hc => ?_⟩
  obtain ⟨e, he, rfl⟩ := List.mem_map.1 ha
  simp at hc
  subst hc
  exact fun heq => mfind_none h.2 e he heq
 ·
  exact ⟨l, by rw [PutL, if_neg h], hk⟩
def RTk (xs : List (List UInt8)) (rs : RL) : Prop := ∃ l, Like l rs ∧ Holds l xs
theorem RTk.nil : RTk [] [] := ⟨[], Like.nil, Holds.nil⟩
theorem RTk.step {xs : List (List UInt8)} {rs : RL} {b : List UInt8} (h : RTk xs rs) (he : rPutE rs b = 0) : RTk (xs ++ [b]) (rPutL rs b) := by
 obtain ⟨l, hL, hH⟩ := h
 obtain ⟨l', hP, hk⟩ := putL_ex hL.keys b
 exact ⟨l', hL.put hk hP, hH.put0 (by rw [hL.putE]; exact he) hP hk⟩
theorem rPutE_short {rs : RL} {b : List UInt8} (h : rPutE rs b = 0) : b.length ≤ 131072 := by
 rcases Nat.lt_or_ge 131072 b.length with hl | hl
 ·
  rw [rPutE, if_pos hl] at h; omega
 ·
  exact hl
theorem RTk.err {xs : List (List UInt8)} {rs : RL} {i : Nat} {b : List UInt8} (h : RTk (xs.take i) rs) (hi : xs[i]? = some b) (hs : ∀ x ∈ xs.take i, x.length ≤ 131072) (hf : rs.length ≤ 500) (hne : rPutE rs b ≠ 0) : TkErr xs (rPutE rs b) := by
 obtain ⟨l, hL, hH⟩ := h
 exact ⟨i, b, l, hi, hH, hs, by rw [hL.len]; exact hf, hL.putE b |>.symm, hne⟩
theorem Met.same {l : List Ent} {hs M D E : List Dig} (h : Met l hs M D) (hD : ∀ d, d ∈ D ↔ d ∈ E) : Met l hs M E where
 nodup := h.nodup
 ok := h.ok
 rch d hd := h.rch d (hd.imp id (hD d).2)
 hs d hd := (h.hs d hd).imp id (hD d).1
 clo d hd p hp := (h.clo d hd p hp).imp id (hD p).1
theorem Met.skipQ {l : List Ent} {hs M D : List Dig} {d : Dig} (h : Met l hs M (d :: D)) (hd : d ∈ M) : Met l hs M D :=
 (h.same (E := D ++ [d]) fun x => by simp [or_comm]).skip hd
theorem Met.stepQ {l : List Ent} {hs M D : List Dig} {d : Dig} (h : Met l hs M (d :: D)) (hd : d ∉ M) (hok : okD l d) : Met l hs (M ++ [d]) (D ++ parD l d) :=
 (h.same (E := D ++ [d]) fun x => by simp [or_comm]).step hd hok
theorem Met.sorted {l : List Ent} {hs M : List Dig} (h : Met l hs M []) : ReachOk l hs (srtD M) where
 up := srt_up _ _ List.Pairwise.nil
 mem d := by
  rw [srtD, srt_mem, ← h.done]
  simp
 ok d hd := h.ok d (by rw [srtD, srt_mem] at hd; simpa using hd)
theorem rcP_bad {xs : List (List UInt8)} {hs : List Dig} {l : List Ent} {d : Dig} (hH : Holds l xs) (hb : ∀ b ∈ xs, b.length ≤ 131072) (hf : l.length ≤ 500) (hr : Rch l hs d) (hd : ¬ okD l d) : RcP xs hs [] 5 :=
 .inr ⟨l, hH, hb, hf, .inl ⟨rfl, rfl, d, hr, hd⟩⟩
theorem rcP_good {xs : List (List UInt8)} {hs S : List Dig} {l : List Ent} (hH : Holds l xs) (hb : ∀ b ∈ xs, b.length ≤ 131072) (hf : l.length ≤ 500) (hS : ReachOk l hs S) : RcP xs hs (S.map (getB l)) 0 :=
 .inr ⟨l, hH, hb, hf, .inr ⟨S, rfl, hS, rfl⟩⟩
end Go.Proofs.YtfanmpbapabboaaGreatDoor
