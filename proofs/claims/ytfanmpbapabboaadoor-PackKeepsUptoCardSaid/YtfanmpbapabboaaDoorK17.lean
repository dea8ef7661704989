/- Parts of a proof: what its last text leans on. No condition. -/
import Derived.Test.YtfanmpbapabboaaDoorK05
import Derived.Test.YtfanmpbapabboaaDoorK16
set_option linter.unusedSimpArgs false
set_option linter.unusedVariables false
/- A delta is written: delta.writer's methods and Make, walked. No condition. -/
namespace Go.Fw
section
variable {w : World} {a : Addr} {u v : Value} (h : Mem w a [u, v])
include h
theorem Mem.deltawriter0 : w.cell? (a.add 0) = some u := h.cell 0 rfl
theorem Mem.deltawriter1 : w.cell? (a.add 1) = some v := h.cell 1 rfl
end
theorem Mem.deltamatch0 {w : World} {a : Addr} {u v : Value} (h : Mem w a [u, v]) : w.cell? (a.add 0) = some u := h.cell 0 rfl
theorem Mem.deltamatch1 {w : World} {a : Addr} {u v : Value} (h : Mem w a [u, v]) : w.cell? (a.add 1) = some v := h.cell 1 rfl
theorem Own.cut0 {w : World} {e : TypeId} {k n c : Nat} {A : Option Addr} {xs : List Value} (h : Own w e k (.slice A n c) xs) : Own w e k (.slice A 0 c) [] := by
 rcases h with ⟨h, rfl⟩ | ⟨g, n', cap, rest, fz, h, hh, hl, hnc, hcm, hal, hfz⟩
 ·
  injection h with h1 h2 h3; subst h1; subst h3; exact .inl ⟨rfl, rfl⟩
 ·
  injection h with h1 h2 h3; subst h1; subst h2; subst h3
  exact .inr ⟨g, 0, c, xs ++ rest, fz, rfl, hh, by simp, Nat.zero_le _, hcm, hal, hfz⟩
end Go.Fw
namespace Go.Proofs.YtfanmpbapabboaaDoor
open Go.RowKit Go.Fw Go.Pl
abbrev TWr : TypeId := 124
theorem fo_deltawriter0 : FieldOff Tryd.prog TWr 0 0 := ⟨_, _, 1, Tryd.underlying124, rfl, by kernel_rfl, by decide, rfl⟩
theorem fo_deltawriter1 : FieldOff Tryd.prog TWr 1 1 := ⟨_, _, 1, Tryd.underlying124, rfl, by kernel_rfl, by decide, rfl⟩
theorem info_wr : ∃ i : TypeInfo, Tryd.prog.info? TWr = some i ∧ i.zero = some (.agg #[.slice none 0 0, .slice none 0 0]) := by
 have h : (Tryd.prog.info? TWr).map (fun i => i.zero) = some (some (.agg #[.slice none 0 0, .slice none 0 0])) := by kernel_rfl
 obtain ⟨i, hi, h⟩ := Option.map_eq_some_iff.1 h
 exact ⟨i, hi, h⟩
theorem sz_deltamatch (p : Nat × Nat) : (Tryd.prog.info? TMt).map (·.size) = some (encM p).length := sz0_deltamatch
theorem as_deltamatch {n : NN} {Φ : Exit → Fr → World → Prop} {fr : Fr} {w : World} {ops : Array Oper} {rest : List Oper} {d : Nat} {x : Operand} {ty ty' : TypeId} {pos pos' : String} {aft aft' : Array Edge} {v : Nat × Nat}
  (hx : ev fr x = some (.agg (encM v).toArray)) (hxd : x ≠ .tmp d) (hd : d < n.1)
  (h : ∀ g w', Ext w w' → w.heap.size ≤ g → Blk w' g TMt (encM v) → WL Tryd.prog ops n Φ rest ((d, .pointer (some ⟨g, 0, none⟩)) :: fr) w') :
  WL Tryd.prog ops n Φ (⟨some d, .alloc TMt, ty, pos, aft, none⟩ :: ⟨none, .store TMt (.tmp d) x, ty', pos', aft', none⟩ :: rest) fr w := by
 obtain ⟨i, z, hi, hz, hzc, hs, _⟩ := mi_match
 exact WL.allocStore (zs := [.int .i64 0, .int .i64 0]) (cs := encM v) hi hz hzc (by rw [hs]; rfl) rfl hx hxd rfl (one_encM v) hd h
structure WAt (w : World) (g : Nat) (u v : Value) (out rest : List UInt8) : Prop where
 blk : Blk w g TWr [u, v]
 o : Own w 5 1 u (bytesC out)
 r : Own w 5 1 v (bytesC rest)
 nu : ∀ k, u.ownBlock = some k → k ≠ g ∧ v.ownBlock ≠ some k
 nv : ∀ k, v.ownBlock = some k → k ≠ g
theorem WAt.chg {w w' : World} {g : Nat} {u v : Value} {out rest : List UInt8} {S : Nat → Prop} (h : WAt w g u v out rest) (hc : Chg S w w') (hg : ¬ S g) (hu : ∀ k, u.ownBlock = some k → ¬ S k) (hv : ∀ k, v.ownBlock = some k → ¬ S k) : WAt w' g u v out rest :=
 ⟨h.blk.chg hc hg, h.o.chg hc hu, h.r.chg hc hv, h.nu, h.nv⟩
theorem WAt.ext {w w' : World} {g : Nat} {u v : Value} {out rest : List UInt8} (h : WAt w g u v out rest) (hc : Ext w w') : WAt w' g u v out rest := h.chg hc (fun f => f) (fun _ _ f => f) (fun _ _ f => f)
def mkE (base target : List UInt8) : Int := if 4096 < base.length ∨ 4096 < target.length then 3 else 0
def mkR (base target : List UInt8) : List UInt8 := if 4096 < base.length ∨ 4096 < target.length then [] else mkB base target
theorem wnum_any (g : Nat) (u v : Value) (out rest : List UInt8) (n : Int) (w : World) (h : WAt w g u v out rest) (hn : n < 9223372036854775808) (hl : out.length ≤ 100000000) : Calls Tryd.prog 61 #[.pointer (some ⟨g, 0, none⟩), .int .i64 n] w (Ret fun r w' => r = .tuple #[] ∧ (∃ u', WAt w' g u' v (out ++ numB n) rest ∧ ∀ k, u'.ownBlock = some k → u.ownBlock = some k ∨ w.heap.size ≤ k) ∧ Chg (fun k => k = g ∨ u.ownBlock = some k) w w') := by
 have hgl := h.blk.lt
 have hvl := h.r.lt
 refine calls_of_CW 20 [] [(0, .pointer (some ⟨g, 0, none⟩)), (1, .int .i64 n)] Tryd.func61 rfl rfl rfl (by simp) args2 ?_
 have hE : Chg (fun k => k = g ∨ u.ownBlock = some k) w w := Chg.refl
 refine CW.sr fun K1 hK1 => ?_
 refine WL.m rfl ?_
 refine WL.call Tryd.func48 rfl rfl rfl (num_any n _ hn) (by simp) ?_; rintro v8 w1 hR1
 obtain ⟨b8, rfl, hOb, hcb, hfb⟩ := hR1
 have hx1 : Ext w w1 := hcb.toExt (fun k _ h => by simp [Value.ownBlock] at h)
 have hz1 := hx1.size
 have hE := hE.thenExt hx1
 have h := h.ext hx1
 have hOb : Own w1 5 1 b8 (bytesC (numB n)) := by simpa using hOb
 have hnb := numB_len hn
 refine WL.m rfl ?_
 refine WL.v (Y.extract rfl rfl) ?_
 refine WL.v (Y.extract rfl rfl) ?_
 refine WL.a rfl ?_
 refine WL.a rfl ?_
 refine WL.nil (hK1 _ _ ?_); try clear hK1
 refine CW.region ?_
 refine WL.m rfl ?_
 refine WL.m rfl ?_
 refine WL.v (Y.nilCheck rfl) ?_
 refine WL.v (Y.fieldAddr fo_deltawriter0 rfl) ?_
 refine WL.v (Y.load1 Tryd.underlying32 rfl h.blk.mem.deltawriter0 rfl) ?_
 refine WL.m rfl ?_
 refine WL.st (St.app (xs := out) (ys := numB n) Tryd.underlying32 Tryd.underlying32 ai_u8 rfl rfl h.o (Src.own hOb) om_) de_ fun v17 w2 hR2 => ?_
 obtain ⟨hO2, hc2, hf2⟩ := hR2
 have hz2 := hc2.size
 have hE := hE.stepO hc2 (fun k h => .inl (.inr h))
 obtain ⟨A2, m2, c2, rfl⟩ := hO2.lens
 have hW := h.blk.chg hc2 (fun x => (h.nu _ x).1 rfl)
 have hr := h.r.chg hc2 (fun k hk x => (h.nu k x).2 hk)
 have hf : ∀ k, (Value.slice A2 m2 c2).ownBlock = some k → (u.ownBlock = some k ∨ w1.heap.size ≤ k) := by
  rcases hf2 with h_ | h_
  ·
   intro k hk; rw [h_] at hk; exact .inl hk
  ·
   intro k hk; exact .inr (h_ k hk)
 have hun : ∀ k, (Value.slice A2 m2 c2).ownBlock = some k → k ≠ g ∧ v.ownBlock ≠ some k := by
  intro k hk
  rcases hf k hk with h_ | h_
  ·
   exact h.nu k h_
  ·
   exact ⟨by omega, fun x => by have := hvl k x; omega⟩
 refine WL.v (Y.nilCheck rfl) ?_
 refine WL.v (Y.fieldAddr fo_deltawriter0 rfl) ?_
 refine WL.store (g := g) (pre := []) (old := [u]) (post := [v]) (new := [.slice A2 m2 c2]) rfl rfl rfl rfl kr_ (by simpa using hW) ln_ (one1 rfl) (fun w3 hc3 hB3_ => ?_)
 have hz3 := hc3.size; have hE := hE.stepO hc3 (fun k h => (by show (k = g ∨ u.ownBlock = some k) ∨ _; omega)); have h := h
 skip
 refine WL.nil ?_
 refine ⟨_, rfl, ?_⟩
 exact ⟨rfl, ⟨_, ⟨by simpa using hB3_, hO2.chg hc3 (fun k hk x => (hun k hk).1 x), hr.chg hc3 (fun k hk x => h.nv k hk x), hun, h.nv⟩, fun k hk => (hf k hk).imp id (fun x => by omega)⟩, hE⟩
set_option maxRecDepth 100000 in
theorem wflush_any (g : Nat) (u0 v : Value) (out rest : List UInt8) (w : World) (h : WAt w g u0 v out rest) (hl : out.length + rest.length ≤ 90000000) : Calls Tryd.prog 63 #[.pointer (some ⟨g, 0, none⟩)] w (Ret fun r w' => r = .tuple #[] ∧ (∃ u' v', WAt w' g u' v' (out ++ ownB rest) [] ∧ (∀ k, u'.ownBlock = some k → u0.ownBlock = some k ∨ w.heap.size ≤ k) ∧ ∀ k, v'.ownBlock = some k → v.ownBlock = some k) ∧ Chg (fun k => k = g ∨ u0.ownBlock = some k) w w') := by
 have hgl := h.blk.lt
 have hvl := h.r.lt
 obtain ⟨B, n, cb, rfl⟩ := h.r.lens
 have hrl := h.r.by.len.1
 refine calls_of_CW 36 [] [(0, .pointer (some ⟨g, 0, none⟩))] Tryd.func63 rfl rfl rfl (by simp) args1 ?_
 have hE : Chg (fun k => k = g ∨ u0.ownBlock = some k) w w := Chg.refl
 refine CW.seq_to (X := Value) (fun y => [(0, .pointer (some ⟨g, 0, none⟩))]) (fun y w0 => WAt w0 g y (.slice B n cb) (out ++ ownB rest) rest ∧ (∀ k, y.ownBlock = some k → u0.ownBlock = some k ∨ w.heap.size ≤ k) ∧ Chg (fun k => k = g ∨ u0.ownBlock = some k) w w0) ?_ ?_
 ·
  skip
  refine CW.sr fun K2 hK2 => ?_
  refine WL.m rfl ?_
  refine WL.v (Y.nilCheck rfl) ?_
  refine WL.v (Y.fieldAddr fo_deltawriter1 rfl) ?_
  refine WL.v (Y.load1 Tryd.underlying32 rfl h.blk.mem.deltawriter1 rfl) ?_
  refine WL.v (Y.len_slice Tryd.underlying32 rfl) ?_
  refine WL.v (Y.gtr rfl rfl) ?_
  refine WL.nil (hK2 _ _ ?_); try clear hK2
  (first | refine cd_ rfl ?_ ?_ | refine ce_ rfl ?_ ?_ | refine cn_ rfl ?_ ?_ | refine cb_ rfl ?_ ?_) <;> intro ht3
  ·
   -- then
   refine CW.sr fun K4 hK4 => ?_
   refine WL.m rfl ?_
   refine WL.m rfl ?_
   refine WL.v (Y.nilCheck rfl) ?_
   refine WL.v (Y.fieldAddr fo_deltawriter1 rfl) ?_
   refine WL.v (Y.load1 Tryd.underlying32 rfl h.blk.mem.deltawriter1 rfl) ?_
   refine WL.v (Y.len_slice Tryd.underlying32 rfl) ?_
   refine WL.v (Y.mul rfl rfl o2_) ?_
   refine WL.call Tryd.func61 rfl rfl rfl (wnum_any g u0 _ out rest (2 * (n : Int)) _ h om_ om_) (by simp) ?_; rintro v15 w1 hR1
   obtain ⟨rfl, ⟨u1, h, hu1⟩, hc1⟩ := hR1
   have hz1 := hc1.size
   have hE := hE.trans hc1 (fun _ _ h => h)
   have hvi := vi_len9 (n := 2 * rest.length) om_
   rw [show 2 * (n : Int) = ((2 * rest.length : Nat) : Int) from by omega, numB_nat] at h
   obtain ⟨A, m, c, rfl⟩ := h.o.lens
   refine WL.nil (hK4 _ _ ?_); try clear hK4
   refine CW.held (fun wq => Chg (fun k => k = g ∨ (Value.slice A m c).ownBlock = some k) w1 wq ∧ wq.cell? ((⟨g, 0, none⟩ : Addr).add 1) = some (.slice B n cb)) kr_ 13 rfl fun w2 hx2 => ?_
   have hS : Chg (fun k => k = g ∨ (Value.slice A m c).ownBlock = some k) w1 w2 ∧ w2.cell? ((⟨g, 0, none⟩ : Addr).add 1) = some (.slice B n cb) := ⟨hx2.chg, (h.ext hx2).blk.mem.cell 1 rfl⟩
   have h := h.ext hx2
   have hz2 := hx2.size
   refine RH.tk 0 hS rfl (fun wq hq => Y.move rfl) ?_
   refine RH.tk 1 hS rfl (fun wq hq => Y.move rfl) ?_
   refine RH.tk 2 hS rfl (fun wq hq => Y.nilCheck rfl) ?_
   refine RH.tk 3 hS rfl (fun wq hq => Y.fieldAddr fo_deltawriter0 rfl) ?_
   refine RH.tk 5 hS rfl (fun wq hq => Y.move rfl) ?_
   refine RH.tk 6 hS rfl (fun wq hq => Y.nilCheck rfl) ?_
   refine RH.tk 7 hS rfl (fun wq hq => Y.fieldAddr fo_deltawriter1 rfl) ?_
   refine RH.tk 8 hS rfl (fun wq hq => Y.load1 Tryd.underlying32 rfl hq.2 rfl) ?_
   refine RH.one 4 kr_ ?_
   refine RS.val rfl (Y.load1 Tryd.underlying32 rfl h.blk.mem.deltawriter0 rfl) de_ ⟨hS, ?_⟩
   refine RH.one 9 kr_ ?_
   refine RS.st rfl (St.app (xs := out ++ vi (2 * rest.length)) (ys := rest) Tryd.underlying32 Tryd.underlying32 ai_u8 rfl rfl h.o (Src.by h.r.by) (by rw [List.length_append]; omega)) de_ fun v25 w3 hR3 => ?_
   obtain ⟨hO3, hc3, hf3⟩ := hR3
   have hz3 := hc3.size
   obtain ⟨A3, m3, c3, rfl⟩ := hO3.lens
   have hS : Chg (fun k => k = g ∨ (Value.slice A m c).ownBlock = some k) w1 w3 ∧ w3.cell? ((⟨g, 0, none⟩ : Addr).add 1) = some (.slice B n cb) := ⟨hS.1.trans hc3 (fun k _ h => .inr h), hc3.cell hS.2 (by rw [block_add]; exact fun x => (h.nu _ x).1 rfl)⟩
   have hW := h.blk.chg hc3 (fun x => (h.nu _ x).1 rfl)
   have hr := h.r.chg hc3 (fun k hk x => (h.nu k x).2 hk)
   have hf : ∀ k, (Value.slice A3 m3 c3).ownBlock = some k → ((Value.slice A m c).ownBlock = some k ∨ w2.heap.size ≤ k) := by
    rcases hf3 with h_ | h_
    ·
     intro k hk; rw [h_] at hk; exact .inl hk
    ·
     intro k hk; exact .inr (h_ k hk)
   have hun : ∀ k, (Value.slice A3 m3 c3).ownBlock = some k → k ≠ g ∧ (Value.slice B n cb).ownBlock ≠ some k := by
    intro k hk
    rcases hf k hk with h_ | h_
    ·
     exact h.nu k h_
    ·
     exact ⟨by omega, fun x => by have := hvl k x; omega⟩
   refine ⟨hS, ?_⟩
   refine RH.tk 10 hS rfl (fun wq hq => Y.nilCheck rfl) ?_
   refine RH.tk 11 hS rfl (fun wq hq => Y.fieldAddr fo_deltawriter0 rfl) ?_
   refine RH.one 12 kr_ ?_
   refine RS.store rfl (g := g) (pre := []) (old := [.slice A m c]) (post := [.slice B n cb]) (new := [.slice A3 m3 c3]) rfl rfl rfl rfl kr_ (by simpa using hW) rfl (one1 rfl) (fun w4 hc4 hB4_ => ?_)
   have hB4 : Blk w4 g TWr [.slice A3 m3 c3, .slice B n cb] := by simpa using hB4_
   have hS : Chg (fun k => k = g ∨ (Value.slice A m c).ownBlock = some k) w1 w4 ∧ w4.cell? ((⟨g, 0, none⟩ : Addr).add 1) = some (.slice B n cb) := ⟨hS.1.trans hc4 (fun k _ h => .inl h), hB4.mem.cell 1 rfl⟩
   refine ⟨hS, ?_⟩
   refine RH.done kr_ ?_
   have hE := hE.stepO hS.1 (fun k h => by rcases h with h | h; exact .inl (.inl h); rcases hu1 k h with h | h; exact .inl (.inr h); exact .inr h)
   have hne : rest ≠ [] := by intro h; subst h; simp at hrl; omega
   have ho : out ++ ownB rest = out ++ vi (2 * rest.length) ++ rest := by rw [ownB, if_neg hne, List.append_assoc]
   exact ⟨.slice A3 m3 c3, Fr.ok, by rw [ho]; exact ⟨hB4, hO3.chg hc4 (fun k hk x => (hun k hk).1 x), hr.chg hc4 (fun k hk x => h.nv k hk x), hun, h.nv⟩, fun k hk => by rcases hf k hk with h | h; exact hu1 k h; exact .inr om_, hE⟩
  refine CW.skip ?_
  have hr0 : rest = [] := List.eq_nil_of_length_eq_zero om_
  exact ⟨u0, Fr.ok, by rw [show ownB rest = [] from if_pos hr0, List.append_nil]; exact h, fun k hk => .inl hk, hE⟩
 rintro u w5 hj5
 clear h hE
 obtain ⟨h, hyf, hE⟩ := hj5
 refine CW.region ?_
 refine WL.m rfl ?_
 refine WL.m rfl ?_
 refine WL.v (Y.nilCheck rfl) ?_
 refine WL.v (Y.fieldAddr fo_deltawriter1 rfl) ?_
 refine WL.v (Y.load1 Tryd.underlying32 rfl h.blk.mem.deltawriter1 rfl) ?_
 refine WL.v (Y.slice_hi Tryd.underlying32 rfl rfl sz0_uint8 (show (0 : Int) = ((0 : Nat) : Int) from rfl) (Nat.zero_le _)) ?_
 refine WL.v (Y.nilCheck rfl) ?_
 refine WL.v (Y.fieldAddr fo_deltawriter1 rfl) ?_
 refine WL.store (g := g) (pre := [u]) (old := [.slice B n cb]) (post := []) (new := [.slice B 0 cb]) rfl rfl rfl rfl kr_ (by simpa using h.blk) ln_ (one1 rfl) (fun w6 hc6 hB6_ => ?_)
 have hz6 := hc6.size; have hE := hE.stepO hc6 (fun k h => (by show (k = g ∨ u0.ownBlock = some k) ∨ _; omega))
 skip
 refine WL.nil ?_
 refine ⟨_, rfl, ?_⟩
 have e0 : (Value.slice B 0 cb).ownBlock = (Value.slice B n cb).ownBlock := by cases B <;> rfl
 exact ⟨rfl, ⟨u, .slice B 0 cb, ⟨by simpa using hB6_, h.o.chg hc6 (fun k hk x => (h.nu k hk).1 x), (h.r.chg hc6 (fun k hk x => h.nv k hk x)).cut0, fun k hk => ⟨(h.nu k hk).1, e0 ▸ (h.nu k hk).2⟩, fun k hk => h.nv k (e0 ▸ hk)⟩, hyf, fun k hk => e0 ▸ hk⟩, hE⟩
set_option maxRecDepth 100000 in
set_option maxHeartbeats 2000000 in
theorem make_any (u v : Value) (base target : List UInt8) (w : World) (hu : By w u base) (hv : By w v target) : Calls Tryd.prog 49 #[u, v] w (Ret fun r w' => ∃ x, r = .tuple #[x, .int .i64 (mkE base target)] ∧ Own w' 5 1 x (bytesC (mkR base target)) ∧ (∀ k, x.ownBlock = some k → w.heap.size ≤ k) ∧ Ext w w') := by
 have hul := hu.ltB
 have hvl := hv.ltB
 have hu0 := hu
 have hv0 := hv
 obtain ⟨A, m, c, rfl⟩ := hu.lens
 obtain ⟨B, n, cb, rfl⟩ := hv.lens
 have hm := hu.len.1
 have hn := hv.len.1
 obtain ⟨iw, hiw, hzw⟩ := info_wr
 refine calls_of_CW 71 [4, 5] [(0, .slice A m c), (1, .slice B n cb)] Tryd.func49 rfl rfl rfl (by simp) args2 ?_
 have hE : Ext w w := Chg.refl
 refine CW.sr fun K1 hK1 => ?_
 refine WL.a rfl ?_
 refine WL.a rfl ?_
 refine WL.nil (hK1 _ _ ?_); try clear hK1
 refine CW.seq fun K2 hK2 => ?_
 refine CW.seq_test 18 ((4096 : Int) < (m : Int) ∨ (4096 : Int) < (n : Int)) ?_ ?_
 ·
  refine CW.region ?_
  refine WL.m rfl ?_
  refine WL.v (Y.len_slice Tryd.underlying32 rfl) ?_
  refine WL.v (Y.gtr rfl rfl) ?_
  refine WL.m rfl ?_
  (first | refine WL.casesD (d := 14) rfl ?_ ?_ | refine WL.casesND (d := 14) rfl ?_ ?_ | refine WL.cases (d := 14) rfl ?_ ?_) <;> intro hg14
  ·
   -- t14 = T
   refine WL.o rfl rfl ?_
   refine WL.o rfl rfl ?_
   refine WL.o rfl rfl ?_
   refine WL.v (Y.pick rfl rfl) ?_
   refine WL.nil ⟨⟨_, rfl, ?_⟩, rfl, Fr.okp⟩
   exact tst_ok
  ·
   -- t14 = F
   refine WL.g rfl rfl (Y.move rfl) ?_
   refine WL.g rfl rfl (Y.len_slice Tryd.underlying32 rfl) ?_
   refine WL.g rfl rfl (Y.gtr rfl rfl) ?_
   refine WL.v (Y.pick rfl rfl) ?_
   refine WL.nil ⟨⟨_, rfl, ?_⟩, rfl, Fr.okp⟩
   exact tst_ok
 (first | refine cd_ rfl ?_ ?_ | refine ce_ rfl ?_ ?_ | refine cn_ rfl ?_ ?_ | refine cb_ rfl ?_ ?_) <;> intro ht3
 ·
  -- then
  refine CW.sr fun K4 hK4 => ?_
  refine WL.a rfl ?_
  refine WL.a rfl ?_
  refine WL.nil (hK4 _ _ ?_); try clear hK4
  refine CW.ret ⟨_, rfl, ?_⟩
  have hc : 4096 < base.length ∨ 4096 < target.length := by omega
  exact ⟨_, by rw [mkE, if_pos hc], by rw [mkR, if_pos hc]; exact Own.nil, (fun k hk => by cases hk), hE⟩
 refine CW.skip ?_
 refine hK2 _ _ ?_; try clear hK2
 refine CW.sr fun K5 hK5 => ?_
 refine WL.alloc (hiw) (hzw) rfl de_ fun g6 w1 hx1 hg6 hB6 => ?_
 have hlt6 := hB6.lt; have hz1 := hx1.size
 have hM6 := hB6.mem; have hz1 := hx1.size; have hE := hE.thenExt hx1; have hu := hu.ext hx1; have hv := hv.ext hx1
 refine WL.nil (hK5 _ _ ?_); try clear hK5
 refine CW.sr fun K6 hK6 => ?_
 refine WL.v (Y.makeFuncM rfl) ?_
 refine WL.a rfl ?_
 refine WL.nil (hK6 _ _ ?_); try clear hK6
 refine CW.sr fun K7 hK7 => ?_
 refine WL.m rfl ?_
 refine WL.m rfl ?_
 refine WL.v (Y.len_slice Tryd.underlying32 rfl) ?_
 refine WL.callM rfl Tryd.func61 rfl rfl rfl (wnum_any g6 _ _ [] [] (m : Int) _ ⟨hB6, Own.nil, Own.nil, (fun k hk => by cases hk), (fun k hk => by cases hk)⟩ om_ (by simp)) (by simp) ?_; rintro v23 w2 hR2
 obtain ⟨rfl, ⟨u1, h6, hu1⟩, hc2⟩ := hR2
 have hz2 := hc2.size
 have hE := hE.step hc2 (fun k h => by rcases h with h | h; omega; cases h)
 have hu := hu0.ext hE
 have hv := hv0.ext hE
 have hB6 := h6.blk
 have hu1 : ∀ k, u1.ownBlock = some k → w.heap.size ≤ k := fun k hk => by rcases hu1 k hk with h | h; cases h; omega
 have hm9 := vi_len9 (n := m) om_
 have hn9 := vi_len9 (n := n) om_
 rw [numB_nat, List.nil_append] at h6
 refine WL.nil (hK7 _ _ ?_); try clear hK7
 refine CW.sr fun K8 hK8 => ?_
 refine WL.m rfl ?_
 refine WL.m rfl ?_
 refine WL.v (Y.len_slice Tryd.underlying32 rfl) ?_
 refine WL.callM rfl Tryd.func61 rfl rfl rfl (wnum_any g6 u1 _ _ [] (n : Int) _ h6 om_ om_) (by simp) ?_; rintro v27 w3 hR3
 obtain ⟨rfl, ⟨u2, h6, hu2⟩, hc3⟩ := hR3
 have hz3 := hc3.size
 have hE := hE.step hc3 (fun k h => by rcases h with h | h; omega; exact hu1 k h)
 have hu := hu0.ext hE
 have hv := hv0.ext hE
 have hB6 := h6.blk
 have hu2l := h6.o.lt
 have hu2 : ∀ k, u2.ownBlock = some k → w.heap.size ≤ k := fun k hk => by rcases hu2 k hk with h | h; exact hu1 k h; omega
 rw [numB_nat, ← hm, ← hn] at h6
 refine WL.nil (hK8 _ _ ?_); try clear hK8
 refine CW.sr fun K9 hK9 => ?_
 refine WL.m rfl ?_
 refine WL.m rfl ?_
 refine WL.call Tryd.func62 rfl rfl rfl (matches_any _ _ base target _ hu hv om_ om_) (by simp) ?_; rintro v30 w4 hR4
 obtain ⟨gb, rfl, hgb, hBb, hx4⟩ := hR4
 have hz4 := hx4.size
 have hE := hE.thenExt hx4
 have hu := hu.ext hx4
 have hv := hv.ext hx4
 have h6 := h6.ext hx4
 have hB6 := h6.blk
 refine WL.a rfl ?_
 refine WL.nil (hK9 _ _ ?_); try clear hK9
 refine CW.seq fun K10 hK10 => ?_
 refine CW.sr fun K11 hK11 => ?_
 refine WL.a rfl ?_
 refine WL.nil (hK11 _ _ ?_); try clear hK11
 refine CW.block ?_
 refine CW.loop (X := Nat × Nat × Value × Value × List UInt8 × List UInt8) (fun x => [(0, .slice A m c), (1, .slice B n cb), (6, .pointer (some ⟨g6, 0, none⟩)), (7, .func (.func 61) #[.pointer (some ⟨g6, 0, none⟩)] #[]), (8, .slice (some ⟨gb, 0, none⟩) target.length target.length), (9, .int .i64 (x.1 : Int))]) (fun x w0 => x.1 ≤ n ∧ n ≤ x.1 + x.2.1 ∧ x.2.2.2.2.1 ++ mkS base target x.2.1 x.1 x.2.2.2.2.2 = mkB base target ∧ WAt w0 g6 x.2.2.1 x.2.2.2.1 x.2.2.2.2.1 x.2.2.2.2.2 ∧ (∀ k, x.2.2.1.ownBlock = some k → w.heap.size ≤ k ∧ k ≠ gb) ∧ (∀ k, x.2.2.2.1.ownBlock = some k → w.heap.size ≤ k ∧ k ≠ gb) ∧ x.2.2.2.2.2.length ≤ x.1 ∧ Blk w0 gb TMt (matC ((List.range target.length).map (bestOf base target))) ∧ Ext w w0) (fun x => x.2.1) (0, n, u2, .slice none 0 0, vi base.length ++ vi target.length, []) Fr.ok ⟨Nat.zero_le _, by show n ≤ 0 + n; omega, by show vi base.length ++ vi target.length ++ mkS base target n 0 [] = _; rw [mkB, hn], h6, (fun k hk => ⟨hu2 k hk, by have := hu2l k hk; omega⟩), (fun k hk => by cases hk), Nat.le_refl _, hBb, hE⟩ ?_
 intro x w5 hl5
 obtain ⟨i, f, uu, vv, out, rest⟩ := x
 dsimp only at hl5 ⊢
 obtain ⟨hi, hif, hmk, h6, huf, hvf, hrl, hBb, hE⟩ := hl5
 have hu := hu0.ext hE
 have hv := hv0.ext hE
 have hB6 := h6.blk
 have hg6l := h6.blk.lt
 have hgbl := hBb.lt
 have huul := h6.o.lt
 have hvvl := h6.r.lt
 have hzE := hE.size
 have hol : out.length ≤ 120000 := by
  have := mkB_len (base := base) (target := target) om_ om_
  rw [← hmk, List.length_append] at this
  omega
 refine CW.seq fun K12 hK12 => ?_
 refine CW.sr fun K13 hK13 => ?_
 refine WL.m rfl ?_
 refine WL.m rfl ?_
 refine WL.v (Y.len_slice Tryd.underlying32 rfl) ?_
 refine WL.v (Y.lss rfl rfl) ?_
 refine WL.nil (hK13 _ _ ?_); try clear hK13
 (first | refine cd_ rfl ?_ ?_ | refine ce_ rfl ?_ ?_ | refine cn_ rfl ?_ ?_ | refine cb_ rfl ?_ ?_) <;> intro ht14
 ·
  -- then
  refine CW.skip ?_
  refine hK12 _ _ ?_; try clear hK12
  refine CW.block ?_
  refine CW.sr fun K15 hK15 => ?_
  refine WL.m rfl ?_
  refine WL.m rfl ?_
  refine WL.v (Y.indexAddrN Tryd.underlying126 rfl rfl sz0_deltamatch om_) ?_
  refine WL.v (Y.load Tryd.underlying129 rfl (hBb.kmem encM_length (i := i) (x := bestOf base target i) (by rw [List.getElem?_map, List.getElem?_range om_]; rfl)) (sz_deltamatch _) rfl) ?_
  refine as_deltamatch rfl (by simp) de_ fun g10 w6 hx6 hg10 hB10 => ?_
  have hlt10 := hB10.lt; have hz6 := hx6.size
  have hM10 := hB10.mem; have hz6 := hx6.size; have hE := hE.thenExt hx6; have hu := hu.ext hx6; have hv := hv.ext hx6; have hB6 := hB6.ext hx6
  refine WL.nil (hK15 _ _ ?_); try clear hK15
  refine CW.seq fun K16 hK16 => ?_
  refine CW.sr fun K17 hK17 => ?_
  refine WL.v (Y.fieldAddr fo_deltamatch1 rfl) ?_
  refine WL.v (Y.load1 Tryd.underlying3 rfl hB10.mem.deltamatch1 rfl) ?_
  refine WL.v (Y.lss rfl rfl) ?_
  refine WL.nil (hK17 _ _ ?_); try clear hK17
  (first | refine cd_ rfl ?_ ?_ | refine ce_ rfl ?_ ?_ | refine cn_ rfl ?_ ?_ | refine cb_ rfl ?_ ?_) <;> intro ht18
  ·
   -- then
   refine CW.seq fun K19 hK19 => ?_
   refine CW.held (fun wq => Chg (fun k => k = g6 ∨ vv.ownBlock = some k) w6 wq) kr_ 10 rfl fun w7 hx7 => ?_
   have hS : Chg (fun k => k = g6 ∨ vv.ownBlock = some k) w6 w7 := hx7.chg
   have h6 := (h6.ext hx6).ext hx7
   have hB6 := h6.blk
   have hBb := (hBb.ext hx6).ext hx7
   have hz7 := hx7.size
   obtain ⟨f, rfl⟩ : ∃ f_, f = f_ + 1 := ⟨f - 1, by omega⟩
   obtain ⟨b1, rfl, hmb⟩ := hv.mem.1 om_
   obtain ⟨y1, hyk⟩ : ∃ y, target[i]? = some y := ⟨_, List.getElem?_eq_getElem om_⟩
   have hyT : target.getD i 0 = y1 := by rw [List.getD_eq_getElem?_getD, hyk]; rfl
   have hne : target ≠ [] := by intro h; rw [h] at hyk; simp at hyk
   refine RH.tk 0 hS rfl (fun wq hq => Y.fieldAddr fo_deltawriter1 rfl) ?_
   refine RH.tk 2 hS rfl (fun wq hq => Y.move rfl) ?_
   refine RH.tk 3 hS rfl (fun wq hq => Y.move rfl) ?_
   refine RH.tk 4 hS rfl (fun wq hq => Y.indexAddrN Tryd.underlying32 rfl rfl sz0_uint8 om_) ?_
   refine RH.tk 5 hS rfl (fun wq hq => Y.load1 Tryd.underlying5 rfl ((hmb.chg hq (fun h => by have := hvl hne _ rfl; rcases h with h | h; omega; have := (hvf _ h).1; omega)) (i * 1) _ (by rw [Nat.mul_one]; exact bytesC_get hyk)) rfl) ?_
   refine RH.two 1 6 kr_ ?_ ?_
   ·
    skip
    refine RS.val rfl (Y.load1 Tryd.underlying32 rfl hB6.mem.deltawriter1 rfl) de_ ⟨hS, ?_⟩
    refine RH.one 6 kr_ ?_
    refine RS.st rfl (St.buildSlice rfl (bs1 _)) de_ fun v48 w8 hR8 => ?_
    obtain ⟨g48, rfl, hg48, hB48, hx8⟩ := hR8
    have hz8 := hx8.size
    have hS := hS.thenExt hx8
    have h6 := h6.ext hx8
    have hBb := hBb.ext hx8
    have hB6 := h6.blk
    refine ⟨hS, ?_⟩
    refine RH.one 7 kr_ ?_
    refine RS.st rfl (St.app (xs := rest) (ys := [y1]) Tryd.underlying32 Tryd.underlying32 ai_u8 rfl rfl h6.r (Src.one hB48 rfl) om_) de_ fun v49 w9 hR9 => ?_
    obtain ⟨hO9, hc9, hf9⟩ := hR9
    have hz9 := hc9.size
    have hS := hS.trans hc9 (fun k _ h => .inr h)
    obtain ⟨A2, m2, c2, rfl⟩ := hO9.lens
    have hW := h6.blk.chg hc9 (fun x => h6.nv _ x rfl)
    have hWo := h6.o.chg hc9 (fun k hk x => (h6.nu k hk).2 x)
    have hBb := hBb.chg hc9 (fun x => (hvf _ x).2 rfl)
    have hul6 := h6.o.lt
    have hgl6 := h6.blk.lt
    have hgbl := hBb.lt
    have hv2 : ∀ k, (Value.slice A2 m2 c2).ownBlock = some k → (vv.ownBlock = some k ∨ w7.heap.size ≤ k) := by
     rcases hf9 with h_ | h_
     ·
      intro k hk; rw [h_] at hk; exact .inl hk
     ·
      intro k hk; have := h_ k hk; exact .inr om_
    refine ⟨hS, ?_⟩
    refine RH.tk 8 hS rfl (fun wq hq => Y.fieldAddr fo_deltawriter1 rfl) ?_
    refine RH.one 9 kr_ ?_
    refine RS.store rfl (g := g6) (pre := [uu]) (old := [vv]) (post := []) (new := [.slice A2 m2 c2]) rfl rfl rfl rfl kr_ (by simpa using hW) rfl (one1 rfl) (fun w10 hc10 hB10_ => ?_)
    have hS := hS.trans hc10 (fun k _ h => .inl h)
    refine ⟨hS, ?_⟩
    refine RH.done kr_ ?_
    have hE := hE.step hS (fun k h => by rcases h with h | h; omega; exact (hvf k h).1)
    have hzS := hS.size
    refine hK19 _ _ ?_; try clear hK19
    refine CW.sr fun K20 hK20 => ?_
    refine WL.m rfl ?_
    refine WL.v (Y.add rfl rfl o2_) ?_
    refine WL.a rfl ?_
    refine WL.nil (hK20 _ _ ?_); try clear hK20
    refine CW.exit ?_
    have hnf : ∀ k, (Value.slice A2 m2 c2).ownBlock = some k → w.heap.size ≤ k ∧ k ≠ gb ∧ k ≠ g6 ∧ uu.ownBlock ≠ some k := by
     intro k hk
     rcases hv2 k hk with h_ | h_
     ·
      exact ⟨(hvf k h_).1, (hvf k h_).2, h6.nv k h_, fun x => (h6.nu k x).2 h_⟩
     ·
      exact ⟨by omega, by omega, by omega, fun x => by have := huul k x; omega⟩
    refine ⟨(i + 1, f, uu, .slice A2 m2 c2, out, rest ++ [target.getD i 0]), by show f < f + 1; omega, Fr.ok, by show i + 1 ≤ n; omega, by show n ≤ i + 1 + f; omega, ?_, ⟨by simpa using hB10_, hWo.chg hc10 (fun k hk x => (h6.nu k hk).1 x), ?_, fun k hk => ⟨(h6.nu k hk).1, fun x => (hnf k x).2.2.2 hk⟩, fun k hk => (hnf k hk).2.2.1⟩, huf, fun k hk => ⟨(hnf k hk).1, (hnf k hk).2.1⟩, by show (rest ++ [_]).length ≤ i + 1; rw [List.length_append, List.length_singleton]; omega, hBb.chg hc10 (fun h => by have h : gb = g6 := h; omega), hE⟩
    ·
     show out ++ mkS base target f (i + 1) (rest ++ [target.getD i 0]) = mkB base target
     rw [← hmk, mkS, if_neg om_, if_pos om_]
    ·
     show Own _ _ _ _ (bytesC (rest ++ [target.getD i 0]))
     rw [hyT]
     exact hO9.chg hc10 (fun k hk x => (hnf k hk).2.2.1 x)
   ·
    skip
    refine RS.st rfl (St.buildSlice rfl (bs1 _)) de_ fun v48 w11 hR11 => ?_
    obtain ⟨g48, rfl, hg48, hB48, hx11⟩ := hR11
    have hz11 := hx11.size
    have hS := hS.thenExt hx11
    have h6 := h6.ext hx11
    have hBb := hBb.ext hx11
    have hB6 := h6.blk
    refine ⟨hS, ?_⟩
    refine RH.one 1 kr_ ?_
    refine RS.val rfl (Y.load1 Tryd.underlying32 rfl hB6.mem.deltawriter1 rfl) de_ ⟨hS, ?_⟩
    refine RH.one 7 kr_ ?_
    refine RS.st rfl (St.app (xs := rest) (ys := [y1]) Tryd.underlying32 Tryd.underlying32 ai_u8 rfl rfl h6.r (Src.one hB48 rfl) om_) de_ fun v49 w12 hR12 => ?_
    obtain ⟨hO12, hc12, hf12⟩ := hR12
    have hz12 := hc12.size
    have hS := hS.trans hc12 (fun k _ h => .inr h)
    obtain ⟨A2, m2, c2, rfl⟩ := hO12.lens
    have hW := h6.blk.chg hc12 (fun x => h6.nv _ x rfl)
    have hWo := h6.o.chg hc12 (fun k hk x => (h6.nu k hk).2 x)
    have hBb := hBb.chg hc12 (fun x => (hvf _ x).2 rfl)
    have hul6 := h6.o.lt
    have hgl6 := h6.blk.lt
    have hgbl := hBb.lt
    have hv2 : ∀ k, (Value.slice A2 m2 c2).ownBlock = some k → (vv.ownBlock = some k ∨ w7.heap.size ≤ k) := by
     rcases hf12 with h_ | h_
     ·
      intro k hk; rw [h_] at hk; exact .inl hk
     ·
      intro k hk; have := h_ k hk; exact .inr om_
    refine ⟨hS, ?_⟩
    refine RH.tk 8 hS rfl (fun wq hq => Y.fieldAddr fo_deltawriter1 rfl) ?_
    refine RH.one 9 kr_ ?_
    refine RS.store rfl (g := g6) (pre := [uu]) (old := [vv]) (post := []) (new := [.slice A2 m2 c2]) rfl rfl rfl rfl kr_ (by simpa using hW) rfl (one1 rfl) (fun w13 hc13 hB13_ => ?_)
    have hS := hS.trans hc13 (fun k _ h => .inl h)
    refine ⟨hS, ?_⟩
    refine RH.done kr_ ?_
    have hE := hE.step hS (fun k h => by rcases h with h | h; omega; exact (hvf k h).1)
    have hzS := hS.size
    refine hK19 _ _ ?_; try clear hK19
    refine CW.sr fun K21 hK21 => ?_
    refine WL.m rfl ?_
    refine WL.v (Y.add rfl rfl o2_) ?_
    refine WL.a rfl ?_
    refine WL.nil (hK21 _ _ ?_); try clear hK21
    refine CW.exit ?_
    have hnf : ∀ k, (Value.slice A2 m2 c2).ownBlock = some k → w.heap.size ≤ k ∧ k ≠ gb ∧ k ≠ g6 ∧ uu.ownBlock ≠ some k := by
     intro k hk
     rcases hv2 k hk with h_ | h_
     ·
      exact ⟨(hvf k h_).1, (hvf k h_).2, h6.nv k h_, fun x => (h6.nu k x).2 h_⟩
     ·
      exact ⟨by omega, by omega, by omega, fun x => by have := huul k x; omega⟩
    refine ⟨(i + 1, f, uu, .slice A2 m2 c2, out, rest ++ [target.getD i 0]), by show f < f + 1; omega, Fr.ok, by show i + 1 ≤ n; omega, by show n ≤ i + 1 + f; omega, ?_, ⟨by simpa using hB13_, hWo.chg hc13 (fun k hk x => (h6.nu k hk).1 x), ?_, fun k hk => ⟨(h6.nu k hk).1, fun x => (hnf k x).2.2.2 hk⟩, fun k hk => (hnf k hk).2.2.1⟩, huf, fun k hk => ⟨(hnf k hk).1, (hnf k hk).2.1⟩, by show (rest ++ [_]).length ≤ i + 1; rw [List.length_append, List.length_singleton]; omega, hBb.chg hc13 (fun h => by have h : gb = g6 := h; omega), hE⟩
    ·
     show out ++ mkS base target f (i + 1) (rest ++ [target.getD i 0]) = mkB base target
     rw [← hmk, mkS, if_neg om_, if_pos om_]
    ·
     show Own _ _ _ _ (bytesC (rest ++ [target.getD i 0]))
     rw [hyT]
     exact hO12.chg hc13 (fun k hk x => (hnf k hk).2.2.1 x)
  refine CW.skip ?_
  refine hK16 _ _ ?_; try clear hK16
  refine CW.sr fun K22 hK22 => ?_
  refine WL.call Tryd.func63 rfl rfl rfl (wflush_any g6 uu vv out rest _ (h6.ext hx6) om_) (by simp) ?_; rintro v53 w14 hR14
  obtain ⟨rfl, ⟨u3, v3, h6, hu3, hv3⟩, hc14⟩ := hR14
  have hz14 := hc14.size
  have hE := hE.step hc14 (fun k h => by rcases h with h | h; omega; exact (huf k h).1)
  have hBb := (hBb.ext hx6).chg hc14 (fun h => by rcases h with h | h; omega; exact (huf _ h).2 rfl)
  have hB10 := hB10.chg hc14 (fun h => by rcases h with h | h; omega; have := huul _ h; omega)
  have hu := hu0.ext hE
  have hv := hv0.ext hE
  have hB6 := h6.blk
  have hol2 := ownB_len rest om_
  obtain ⟨hb1, hb2, hb3⟩ := bestOf_same (base := base) (target := target) (i := i) om_
  have hu3 : ∀ k, u3.ownBlock = some k → w.heap.size ≤ k ∧ k ≠ gb ∧ k ≠ g10 := fun k hk => by
   rcases hu3 k hk with h | h
   ·
    exact ⟨(huf k h).1, (huf k h).2, by have := huul k h; omega⟩
   ·
    exact ⟨by omega, by omega, by omega⟩
  refine WL.nil (hK22 _ _ ?_); try clear hK22
  refine CW.sr fun K23 hK23 => ?_
  refine WL.m rfl ?_
  refine WL.v (Y.fieldAddr fo_deltamatch1 rfl) ?_
  refine WL.v (Y.load1 Tryd.underlying3 rfl hB10.mem.deltamatch1 rfl) ?_
  refine WL.v (Y.mul rfl rfl o2_) ?_
  refine WL.v (Y.add rfl rfl o2_) ?_
  refine WL.callM rfl Tryd.func61 rfl rfl rfl (wnum_any g6 u3 v3 _ _ (2 * ((bestOf base target i).2 : Int) + 1) _ h6 om_ (by rw [List.length_append]; omega)) (by simp) ?_; rintro v59 w15 hR15
  obtain ⟨rfl, ⟨u4, h6, hu4⟩, hc15⟩ := hR15
  have hz15 := hc15.size
  have hE := hE.step hc15 (fun k h => by rcases h with h | h; omega; exact (hu3 k h).1)
  have hBb := hBb.chg hc15 (fun h => by rcases h with h | h; omega; exact (hu3 _ h).2.1 rfl)
  have hB10 := hB10.chg hc15 (fun h => by rcases h with h | h; omega; exact (hu3 _ h).2.2 rfl)
  have hu := hu0.ext hE
  have hv := hv0.ext hE
  have hB6 := h6.blk
  rw [show 2 * ((bestOf base target i).2 : Int) + 1 = ((2 * (bestOf base target i).2 + 1 : Nat) : Int) from by omega, numB_nat] at h6
  have hv9 := vi_len9 (n := 2 * (bestOf base target i).2 + 1) om_
  have hg10l := hB10.lt
  have hu4 : ∀ k, u4.ownBlock = some k → w.heap.size ≤ k ∧ k ≠ gb ∧ k ≠ g10 := fun k hk => by
   rcases hu4 k hk with h | h
   ·
    exact hu3 k h
   ·
    exact ⟨by omega, by omega, by omega⟩
  refine WL.nil (hK23 _ _ ?_); try clear hK23
  refine CW.sr fun K24 hK24 => ?_
  refine WL.m rfl ?_
  refine WL.v (Y.fieldAddr fo_deltamatch0 rfl) ?_
  refine WL.v (Y.load1 Tryd.underlying3 rfl hB10.mem.deltamatch0 rfl) ?_
  refine WL.callM rfl Tryd.func61 rfl rfl rfl (wnum_any g6 u4 v3 _ _ ((bestOf base target i).1 : Int) _ h6 om_ (by simp only [List.length_append]; omega)) (by simp) ?_; rintro v63 w16 hR16
  obtain ⟨rfl, ⟨u5, h6, hu5⟩, hc16⟩ := hR16
  have hz16 := hc16.size
  have hE := hE.step hc16 (fun k h => by rcases h with h | h; omega; exact (hu4 k h).1)
  have hBb := hBb.chg hc16 (fun h => by rcases h with h | h; omega; exact (hu4 _ h).2.1 rfl)
  have hB10 := hB10.chg hc16 (fun h => by rcases h with h | h; omega; exact (hu4 _ h).2.2 rfl)
  have hu := hu0.ext hE
  have hv := hv0.ext hE
  have hB6 := h6.blk
  rw [numB_nat] at h6
  refine WL.nil (hK24 _ _ ?_); try clear hK24
  refine CW.region ?_
  refine WL.m rfl ?_
  refine WL.v (Y.fieldAddr fo_deltamatch1 rfl) ?_
  refine WL.v (Y.load1 Tryd.underlying3 rfl hB10.mem.deltamatch1 rfl) ?_
  refine WL.v (Y.add rfl rfl o2_) ?_
  refine WL.a rfl ?_
  refine WL.nil ?_
  obtain ⟨f, rfl⟩ : ∃ f_, f = f_ + 1 := ⟨f - 1, by omega⟩
  refine ⟨(i + (bestOf base target i).2, f, u5, v3, _, []), by show f < f + 1; omega, Fr.ok, by show i + _ ≤ n; omega, by show n ≤ i + _ + f; omega, ?_, h6, fun k hk => ?_, fun k hk => by have := hv3 k hk; exact hvf k this, Nat.zero_le _, hBb, hE⟩
  ·
   rw [← hmk, mkS, if_neg om_, if_neg om_]
   simp only [List.append_assoc]
  ·
   rcases hu5 k hk with h | h
   ·
    exact ⟨(hu4 k h).1, (hu4 k h).2.1⟩
   ·
    exact o2_
 refine CW.exit ?_
 refine hK10 _ _ ?_; try clear hK10
 refine CW.sr fun K25 hK25 => ?_
 refine WL.call Tryd.func63 rfl rfl rfl (wflush_any g6 uu vv out rest _ h6 om_) (by simp) ?_; rintro v68 w17 hR17
 obtain ⟨rfl, ⟨u3, v3, h6, hu3, hv3⟩, hc17⟩ := hR17
 have hz17 := hc17.size
 have hE := hE.step hc17 (fun k h => by rcases h with h | h; omega; exact (huf k h).1)
 have hB6 := h6.blk
 have hu := hu0.ext hE
 have hv := hv0.ext hE
 refine WL.nil (hK25 _ _ ?_); try clear hK25
 refine CW.sr fun K26 hK26 => ?_
 refine WL.v (Y.fieldAddr fo_deltawriter0 rfl) ?_
 refine WL.v (Y.load1 Tryd.underlying32 rfl hB6.mem.deltawriter0 rfl) ?_
 refine WL.a rfl ?_
 refine WL.a rfl ?_
 refine WL.nil (hK26 _ _ ?_); try clear hK26
 refine CW.ret ⟨_, rfl, ?_⟩
 have hc : ¬ (4096 < base.length ∨ 4096 < target.length) := by omega
 exact ⟨u3, by rw [mkE, if_neg hc], by rw [mkR, if_neg hc, ← hmk, mkS_end om_]; exact h6.o, fun k hk => by rcases hu3 k hk with h | h; exact (huf k h).1; omega, hE⟩
end Go.Proofs.YtfanmpbapabboaaDoor
