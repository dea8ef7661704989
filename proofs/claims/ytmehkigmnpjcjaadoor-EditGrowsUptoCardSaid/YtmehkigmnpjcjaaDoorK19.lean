/- Parts of a proof: what its last text leans on. No condition. -/
import Derived.Test.YtmehkigmnpjcjaaDoorK04
import Derived.Test.YtmehkigmnpjcjaaDoorK09
import Derived.Test.YtmehkigmnpjcjaaDoorK12
import Derived.Test.YtmehkigmnpjcjaaDoorK13
import Derived.Test.YtmehkigmnpjcjaaDoorK15
import Derived.Test.YtmehkigmnpjcjaaDoorK17
import Derived.Test.YtmehkigmnpjcjaaDoorK18
set_option linter.unusedSimpArgs false
set_option linter.unusedVariables false
/- Fugue's tree: the walk, the list of what is seen, walked. No condition. -/
namespace Go.Proofs.YtmehkigmnpjcjaaDoor
open Go.RowKit Go.Fw Go.Fu Go.Pl
abbrev TSP : TypeId := 102
abbrev TFn : TypeId := 156
def seenG (ns : List Nn) (l : List Nat) : List Nat := (l.filter fun i => !goneAt (Fw.els ns) i).map (gOf ns)
theorem seenG_app {ns : List Nn} {a b : List Nat} : seenG ns (a ++ b) = seenG ns a ++ seenG ns b := by simp [seenG]
structure WkAt (w0 w : World) (gf gt gb : Nat) (v : Value) (acc : List Nat) : Prop where
 ext : Ext w0 w
 from_ : Blk w gf TFn [.func (.func 76) #[] #[.pointer (some ⟨gf, 0, none⟩), .pointer (some ⟨gt, 0, none⟩)]]
 tell : Blk w gt TFn [.func (.func 68) #[] #[.pointer (some ⟨gb, 0, none⟩)]]
 box : Blk w gb TSP [v]
 own : Own w TP 1 v (ptrL acc)
 new : ∀ k, v.ownBlock = some k → w0.heap.size ≤ k
 low : w0.heap.size ≤ gf ∧ w0.heap.size ≤ gt ∧ w0.heap.size ≤ gb
section
variable {w0 w w' : World} {gf gt gb : Nat} {v : Value} {acc : List Nat}
theorem WkAt.then (h : WkAt w0 w gf gt gb v acc) (hx : Ext w w') : WkAt w0 w' gf gt gb v acc := ⟨h.ext.thenExt hx, h.from_.ext hx, h.tell.ext hx, h.box.ext hx, h.own.ext hx, h.new, h.low⟩
theorem WkAt.ne (h : WkAt w0 w gf gt gb v acc) : (∀ k, v.ownBlock = some k → k ≠ gf ∧ k ≠ gt ∧ k ≠ gb) ∧ gb ≠ gf ∧ gb ≠ gt := by
 have kd : ∀ {k : Nat} {c1 c2 : Array Value} {t1 t2 : TypeId} {f1 f2 : Nat × Nat}, w.heap[k]? = some (.cells c1 t1 f1) → w.heap[k]? = some (.cells c2 t2 f2) → t1 = t2 := fun h1 h2 => by
  rw [h1] at h2; injection h2 with h2; injection h2
 refine ⟨fun k hk => ⟨?_, ?_, ?_⟩, ?_, ?_⟩
 ·
  rintro rfl; obtain ⟨_, _, h1⟩ := h.own.kind hk; exact absurd (kd h1 h.from_) de_
 ·
  rintro rfl; obtain ⟨_, _, h1⟩ := h.own.kind hk; exact absurd (kd h1 h.tell) de_
 ·
  rintro rfl; obtain ⟨_, _, h1⟩ := h.own.kind hk; exact absurd (kd h1 h.box) de_
 ·
  rintro rfl; exact absurd (kd h.box h.from_) de_
 ·
  rintro rfl; exact absurd (kd h.box h.tell) de_
end
theorem seenG_len {ns : List Nn} {l : List Nat} : (seenG ns l).length ≤ l.length := by rw [seenG, List.length_map]; exact List.length_filter_le _ _
theorem flat_takeS {l : List Nat} {f : Nat → List Nat} {k c : Nat} (h : l[k]? = some c) : (l.take (k + 1)).flatMap f = (l.take k).flatMap f ++ f c := by
 rw [List.take_add_one, h]; simp
theorem flat_take_le {l : List Nat} {f : Nat → List Nat} {k c : Nat} (h : l[k]? = some c) : ((l.take k).flatMap f).length + (f c).length ≤ (l.flatMap f).length := by
 have h1 := flat_takeS (f := f) h
 have h2 : l.flatMap f = (l.take (k + 1)).flatMap f ++ (l.drop (k + 1)).flatMap f := by rw [← List.flatMap_append, List.take_append_drop]
 rw [h2, h1]; simp only [List.length_append]; omega
theorem ptr_map {w : World} {l : List Nat} {ns : List Nn} {A : Option Addr} {m c : Nat} (h : Own w TP 1 (.slice A m c) (ptrL (l.map (gOf ns)))) : l.length = m ∧ ∀ i q, l[i]? = some q → ∃ a, A = some a ∧ Mem w (a.add (i * 1)) (pC (gOf ns q)) := by
 have h1 := (h.mem A m c rfl).2.2.1
 rw [ptrL_length, List.length_map, Nat.mul_one] at h1
 exact ⟨h1, fun i q hq => (h.sl pC_length de_).get (by rw [List.getElem?_map, hq]; rfl)⟩
theorem flist1_any (gf gt gb : Nat) (v : Value) (acc : List Nat) (x : El) (lv rv : Value) (gx : Nat) (w0 w : World) (hz : Blk w gx TN (nodeC x lv rv)) (hW : WkAt w0 w gf gt gb v acc) (hn : acc.length ≤ 1000000) : Calls Tryd.prog 68 #[.pointer (some ⟨gx, 0, none⟩), .pointer (some ⟨gb, 0, none⟩)] w (Ret fun r w' => r = .bool true ∧ ∃ u, WkAt w0 w' gf gt gb u (acc ++ if x.gone = true then [] else [gx])) := by
 refine calls_of_CW 13 [3] [(0, .pointer (some ⟨gx, 0, none⟩)), (1, .pointer (some ⟨gb, 0, none⟩))] Tryd.func68 rfl rfl rfl (by simp) args2 ?_
 have hE : Ext w w := Chg.refl
 refine CW.sr fun K1 hK1 => ?_
 refine WL.a rfl ?_
 refine WL.nil (hK1 _ _ ?_); try clear hK1
 refine CW.seq_to (X := Unit) (fun _ => [(0, .pointer (some ⟨gx, 0, none⟩)), (1, .pointer (some ⟨gb, 0, none⟩))]) (fun _ wj => ∃ u, WkAt w0 wj gf gt gb u (acc ++ if x.gone = true then [] else [gx])) ?_ ?_
 ·
  skip
  refine CW.sr fun K3 hK3 => ?_
  refine WL.m rfl ?_
  refine WL.v (Y.nilCheck rfl) ?_
  refine WL.v (Y.fieldAddr fo_fuguenode2 rfl) ?_
  refine WL.v (Y.load1 Tryd.underlying4 rfl hz.mem.fuguenode2 rfl) ?_
  refine WL.v (Y.not rfl) ?_
  refine WL.nil (hK3 _ _ ?_); try clear hK3
  (first | refine cd_ rfl ?_ ?_ | refine ce_ rfl ?_ ?_ | refine cn_ rfl ?_ ?_ | refine cb_ rfl ?_ ?_) <;> intro ht4
  ·
   -- then
   refine CW.region ?_
   refine WL.v (Y.load1 Tryd.underlying102 rfl hW.box.mem.cell0 rfl) ?_
   refine WL.m rfl ?_
   refine WL.st (St.buildSlice rfl (bs1_ptr _)) de_ fun v11 w1 hR1 => ?_
   obtain ⟨g11, rfl, hg11, hB11, hx1⟩ := hR1
   have hW1 := hW.then hx1
   have hz1 := hx1.size
   refine WL.st (St.append (m := 1) (news := ptrL [gx]) UP UP ai_ptr rfl rfl hW1.own (Fw.Src.one hB11 rfl) one_ptrL (by rw [ptrL_length]; omega)) de_ fun v12 w2 hR2 => ?_
   obtain ⟨hO2, hc2, hf2⟩ := hR2
   obtain ⟨A2, n2, c2, rfl⟩ := hO2.lens
   have hne := hW1.ne
   have hz2 := hc2.size
   have hBb2 := hW1.box.chg hc2 (fun h => (hne.1 _ h).2.2 rfl)
   have hgbl := hW1.box.lt
   refine WL.store (g := gb) (pre := []) (old := [v]) (post := []) (new := [.slice A2 n2 c2]) rfl rfl rfl rfl kr_ (by simpa using hBb2) ln_ (one1 rfl) (fun w3 hc3 hB3_ => ?_)
   have hz3 := hc3.size
   have hW3 : WkAt w0 w3 gf gt gb (.slice A2 n2 c2) (acc ++ [gx]) := {
    ext := (hW1.ext.step hc2 (fun k h => hW1.new k h)).step hc3 (fun k h => by have h : k = gb := h; rw [h]; exact hW1.low.2.2)
    from_ := (hW1.from_.chg hc2 (fun h => (hne.1 _ h).1 rfl)).chg hc3 (fun h => hne.2.1 h.symm)
    tell := (hW1.tell.chg hc2 (fun h => (hne.1 _ h).2.1 rfl)).chg hc3 (fun h => hne.2.2 h.symm)
    box := by simpa using hB3_
    own := by
     rw [ptrL_app]
     refine hO2.chg hc3 (fun k hk h => ?_)
     have h : k = gb := h
     rcases hf2 with e | e
     ·
      rw [e] at hk; exact (hne.1 k hk).2.2 h
     ·
      have := e k hk; omega
    new := fun k hk => by
     rcases hf2 with e | e
     ·
      rw [e] at hk; exact hW1.new k hk
     ·
      have := e k hk; have := hW1.ext.size; omega
    low := hW1.low }
   refine WL.nil ?_
   exact ⟨(), Fr.ok, _, by rw [if_neg (by simp_all)]; exact hW3⟩
  refine CW.skip ?_
  exact ⟨(), Fr.ok, v, by rw [if_pos (by simp_all)]; simpa using hW⟩
 rintro u w4 hj4
 obtain ⟨u, hW⟩ := hj4
 refine CW.sr fun K5 hK5 => ?_
 refine WL.a rfl ?_
 refine WL.nil (hK5 _ _ ?_); try clear hK5
 refine CW.ret ⟨_, rfl, ?_⟩
 exact ⟨rfl, u, hW⟩
set_option maxHeartbeats 1000000 in
theorem fwalk1_step (g rb ra : Nat) (ad : List Dig) (ns : List Nn) (gf gt gb i : Nat) (z : Nn) (wB w : World) (v : Value) (acc : List Nat) (hT : FtAt wB g rb ra ad ns) (hG : Fu.Good (Fw.els ns)) (hzi : ns[i]? = some z) (IH : ∀ c, c ∈ z.el.left ∨ c ∈ z.el.right → ∀ w v acc, WkAt wB w gf gt gb v acc → acc.length + (walkE (Fw.els ns) c).length ≤ 1000000 → Calls Tryd.prog 76 #[.pointer (some ⟨gOf ns c, 0, none⟩), .pointer (some ⟨gf, 0, none⟩), .pointer (some ⟨gt, 0, none⟩)] w (Ret fun r w' => r = .bool true ∧ ∃ u, WkAt wB w' gf gt gb u (acc ++ seenG ns (walkE (Fw.els ns) c)))) (hW : WkAt wB w gf gt gb v acc) (hb : acc.length + (walkE (Fw.els ns) i).length ≤ 1000000) : Calls Tryd.prog 76 #[.pointer (some ⟨gOf ns i, 0, none⟩), .pointer (some ⟨gf, 0, none⟩), .pointer (some ⟨gt, 0, none⟩)] w (Ret fun r w' => r = .bool true ∧ ∃ u, WkAt wB w' gf gt gb u (acc ++ seenG ns (walkE (Fw.els ns) i))) := by
 rw [gOf_at hzi]
 obtain ⟨xe, gx, lv, rv⟩ := z
 have hze : (Fw.els ns)[i]? = some xe := by rw [List.getElem?_map, hzi]; rfl
 have hkl : Own wB TP 1 lv (ptrL (xe.left.map (gOf ns))) := hT.kids i _ true hzi
 have hkr : Own wB TP 1 rv (ptrL (xe.right.map (gOf ns))) := hT.kids i _ false hzi
 have hz0 : Blk wB gx TN (nodeC xe lv rv) := hT.node i _ hzi
 have hwk := walkE_eq hG.down hze
 rw [hwk] at hb ⊢
 rw [List.length_append, List.length_cons] at hb
 dsimp only at IH ⊢
 obtain ⟨A, m, c, rfl⟩ := hkl.lens
 obtain ⟨A2, m2, c2, rfl⟩ := hkr.lens
 obtain ⟨hlm, hlg⟩ := ptr_map hkl
 obtain ⟨hrm, hrg⟩ := ptr_map hkr
 have hz := hz0.ext hW.ext
 have hcm := (hkl.mem A m c rfl).2.2.2.1
 have hcc := (hkl.mem A m c rfl).2.2.2.2
 have hcm2 := (hkr.mem A2 m2 c2 rfl).2.2.2.1
 have hcc2 := (hkr.mem A2 m2 c2 rfl).2.2.2.2
 unfold maxLen at hcc hcc2
 refine calls_of_CW 41 [4] [(0, .pointer (some ⟨gx, 0, none⟩)), (1, .pointer (some ⟨gf, 0, none⟩)), (2, .pointer (some ⟨gt, 0, none⟩))] Tryd.func76 rfl rfl rfl (by simp) args3 ?_
 have hE : Ext w w := Chg.refl
 refine CW.sr fun K1 hK1 => ?_
 refine WL.a rfl ?_
 refine WL.nil (hK1 _ _ ?_); try clear hK1
 refine CW.seq fun K2 hK2 => ?_
 refine CW.sr fun K3 hK3 => ?_
 refine WL.m rfl ?_
 refine WL.v (Y.nilCheck rfl) ?_
 refine WL.v (Y.fieldAddr fo_fuguenode3 rfl) ?_
 refine WL.v (Y.load1 Tryd.underlying102 rfl hz.mem.fuguenode3 rfl) ?_
 refine WL.v (Y.len_slice Tryd.underlying102 rfl) ?_
 refine WL.m rfl ?_
 refine WL.nil (hK3 _ _ ?_); try clear hK3
 refine CW.block ?_
 refine CW.loop (X := Nat × Value) (fun x => [(0, .pointer (some ⟨gx, 0, none⟩)), (1, .pointer (some ⟨gf, 0, none⟩)), (2, .pointer (some ⟨gt, 0, none⟩)), (12, .slice A m c), (13, .int .i64 (m : Int)), (14, .int .i64 (x.1 : Int))]) (fun x w0 => x.1 ≤ m ∧ WkAt wB w0 gf gt gb x.2 (acc ++ seenG ns ((xe.left.take x.1).flatMap (walkE (Fw.els ns))))) (fun x => m - x.1) (0, v) Fr.ok ⟨Nat.zero_le _, by simpa [seenG] using hW⟩ ?_
 intro x w1 hl1
 obtain ⟨k, v1⟩ := x
 dsimp only at hl1 ⊢
 obtain ⟨hkm, hW1⟩ := hl1
 refine CW.sr fun K4 hK4 => ?_
 refine WL.v (Y.lss rfl rfl) ?_
 refine WL.nil (hK4 _ _ ?_); try clear hK4
 refine CW.seq fun K5 hK5 => ?_
 (first | refine cd_ rfl ?_ ?_ | refine ce_ rfl ?_ ?_ | refine cn_ rfl ?_ ?_ | refine cb_ rfl ?_ ?_) <;> intro ht6
 ·
  -- then
  refine CW.skip ?_
  refine hK5 _ _ ?_; try clear hK5
  refine CW.seq fun K7 hK7 => ?_
  refine CW.block ?_
  refine CW.seq fun K8 hK8 => ?_
  obtain ⟨q, hq⟩ : ∃ q, xe.left[k]? = some q := ⟨_, List.getElem?_eq_getElem om_⟩
  obtain ⟨a, rfl, hma⟩ := hlg k q hq
  have hfl := flat_take_le (f := walkE (Fw.els ns)) hq
  have hsl := seenG_len (ns := ns) (l := (xe.left.take k).flatMap (walkE (Fw.els ns)))
  refine CW.region ?_
  refine WL.v (Y.indexAddrN Tryd.underlying102 rfl rfl sz0_fuguenode om_) ?_
  refine WL.v (Y.load1 Tryd.underlying101 rfl ((hma.ext hW1.ext).cell0) rfl) ?_
  refine WL.a rfl ?_
  refine WL.nil (hK8 _ _ ?_); try clear hK8
  refine CW.sr fun K9 hK9 => ?_
  refine WL.v (Y.load1 Tryd.underlying156 rfl hW1.from_.mem.cell0 rfl) ?_
  refine WL.m rfl ?_
  refine WL.callV rfl Tryd.func76 rfl rfl rfl (IH q (.inl (List.mem_of_getElem? hq)) _ _ _ hW1 (by rw [List.length_append]; omega)) (by simp) ?_; rintro v20 w2 hR2
  obtain ⟨rfl, u2, hW2⟩ := hR2
  refine WL.v (Y.not rfl) ?_
  refine WL.nil (hK9 _ _ ?_); try clear hK9
  (first | refine cd_ rfl ?_ ?_ | refine ce_ rfl ?_ ?_ | refine cn_ rfl ?_ ?_ | refine cb_ rfl ?_ ?_) <;> intro ht10
  ·
   -- then
   refine CW.sr fun K11 hK11 => ?_
   refine WL.a rfl ?_
   refine WL.nil (hK11 _ _ ?_); try clear hK11
   refine CW.ret ⟨_, rfl, ?_⟩
   exact absurd (show true = false by assumption) de_
  refine CW.skip ?_
  refine hK7 _ _ ?_; try clear hK7
  refine CW.region ?_
  refine WL.v (Y.add rfl rfl o2_) ?_
  refine WL.m rfl ?_
  refine WL.nil ?_
  exact ⟨(k + 1, u2), (by show m - (k + 1) < m - k; omega), Fr.ok, (by show k + 1 ≤ m; omega), by rw [flat_takeS hq, seenG_app, ← List.append_assoc]; exact hW2⟩
 refine CW.exit ?_
 refine hK2 _ _ ?_; try clear hK2
 refine CW.seq fun K12 hK12 => ?_
 refine CW.seq fun K13 hK13 => ?_
 have hke : xe.left.take k = xe.left := List.take_of_length_le om_
 rw [hke] at hW1
 have hsl := seenG_len (ns := ns) (l := xe.left.flatMap (walkE (Fw.els ns)))
 have hz := hz0.ext hW1.ext
 refine CW.region ?_
 refine WL.v (Y.load1 Tryd.underlying156 rfl hW1.tell.mem.cell0 rfl) ?_
 refine WL.m rfl ?_
 refine WL.callV rfl Tryd.func68 rfl rfl rfl (flist1_any gf gt gb _ _ xe _ _ gx wB _ hz hW1 (by rw [List.length_append]; omega)) (by simp) ?_; rintro v25 w3 hR3
 obtain ⟨rfl, u3, hW3⟩ := hR3
 refine WL.v (Y.not rfl) ?_
 refine WL.nil (hK13 _ _ ?_); try clear hK13
 (first | refine cd_ rfl ?_ ?_ | refine ce_ rfl ?_ ?_ | refine cn_ rfl ?_ ?_ | refine cb_ rfl ?_ ?_) <;> intro ht14
 ·
  -- then
  refine CW.sr fun K15 hK15 => ?_
  refine WL.a rfl ?_
  refine WL.nil (hK15 _ _ ?_); try clear hK15
  refine CW.ret ⟨_, rfl, ?_⟩
  exact absurd (show true = false by assumption) de_
 refine CW.skip ?_
 refine hK12 _ _ ?_; try clear hK12
 refine CW.seq fun K16 hK16 => ?_
 refine CW.seq fun K17 hK17 => ?_
 have hz := hz0.ext hW3.ext
 refine CW.region ?_
 refine WL.m rfl ?_
 refine WL.v (Y.nilCheck rfl) ?_
 refine WL.v (Y.fieldAddr fo_fuguenode4 rfl) ?_
 refine WL.v (Y.load1 Tryd.underlying102 rfl hz.mem.fuguenode4 rfl) ?_
 refine WL.v (Y.len_slice Tryd.underlying102 rfl) ?_
 refine WL.m rfl ?_
 refine WL.nil (hK17 _ _ ?_); try clear hK17
 refine CW.block ?_
 refine CW.loop (X := Nat × Value) (fun x => [(0, .pointer (some ⟨gx, 0, none⟩)), (1, .pointer (some ⟨gf, 0, none⟩)), (2, .pointer (some ⟨gt, 0, none⟩)), (30, .slice A2 m2 c2), (31, .int .i64 (m2 : Int)), (32, .int .i64 (x.1 : Int))]) (fun x w0 => x.1 ≤ m2 ∧ WkAt wB w0 gf gt gb x.2 (acc ++ seenG ns (xe.left.flatMap (walkE (Fw.els ns))) ++ (if xe.gone = true then [] else [gx]) ++ seenG ns ((xe.right.take x.1).flatMap (walkE (Fw.els ns))))) (fun x => m2 - x.1) (0, u3) Fr.ok ⟨Nat.zero_le _, by simpa [seenG] using hW3⟩ ?_
 intro x w4 hl4
 obtain ⟨k, v1⟩ := x
 dsimp only at hl4 ⊢
 obtain ⟨hkm, hW4⟩ := hl4
 refine CW.sr fun K18 hK18 => ?_
 refine WL.v (Y.lss rfl rfl) ?_
 refine WL.nil (hK18 _ _ ?_); try clear hK18
 refine CW.seq fun K19 hK19 => ?_
 (first | refine cd_ rfl ?_ ?_ | refine ce_ rfl ?_ ?_ | refine cn_ rfl ?_ ?_ | refine cb_ rfl ?_ ?_) <;> intro ht20
 ·
  -- then
  refine CW.skip ?_
  refine hK19 _ _ ?_; try clear hK19
  refine CW.seq fun K21 hK21 => ?_
  refine CW.block ?_
  refine CW.seq fun K22 hK22 => ?_
  obtain ⟨q, hq⟩ : ∃ q, xe.right[k]? = some q := ⟨_, List.getElem?_eq_getElem om_⟩
  obtain ⟨a, rfl, hma⟩ := hrg k q hq
  have hfl := flat_take_le (f := walkE (Fw.els ns)) hq
  have hsr := seenG_len (ns := ns) (l := (xe.right.take k).flatMap (walkE (Fw.els ns)))
  refine CW.region ?_
  refine WL.v (Y.indexAddrN Tryd.underlying102 rfl rfl sz0_fuguenode om_) ?_
  refine WL.v (Y.load1 Tryd.underlying101 rfl ((hma.ext hW4.ext).cell0) rfl) ?_
  refine WL.a rfl ?_
  refine WL.nil (hK22 _ _ ?_); try clear hK22
  refine CW.sr fun K23 hK23 => ?_
  refine WL.v (Y.load1 Tryd.underlying156 rfl hW4.from_.mem.cell0 rfl) ?_
  refine WL.m rfl ?_
  refine WL.callV rfl Tryd.func76 rfl rfl rfl (IH q (.inr (List.mem_of_getElem? hq)) _ _ _ hW4 (by rw [List.length_append, List.length_append, List.length_append]; have : (if xe.gone = true then ([] : List Nat) else [gx]).length ≤ 1 := (by split <;> simp); omega)) (by simp) ?_; rintro v38 w5 hR5
  obtain ⟨rfl, u5, hW5⟩ := hR5
  refine WL.v (Y.not rfl) ?_
  refine WL.nil (hK23 _ _ ?_); try clear hK23
  (first | refine cd_ rfl ?_ ?_ | refine ce_ rfl ?_ ?_ | refine cn_ rfl ?_ ?_ | refine cb_ rfl ?_ ?_) <;> intro ht24
  ·
   -- then
   refine CW.sr fun K25 hK25 => ?_
   refine WL.a rfl ?_
   refine WL.nil (hK25 _ _ ?_); try clear hK25
   refine CW.ret ⟨_, rfl, ?_⟩
   exact absurd (show true = false by assumption) de_
  refine CW.skip ?_
  refine hK21 _ _ ?_; try clear hK21
  refine CW.region ?_
  refine WL.v (Y.add rfl rfl o2_) ?_
  refine WL.m rfl ?_
  refine WL.nil ?_
  exact ⟨(k + 1, u5), (by show m2 - (k + 1) < m2 - k; omega), Fr.ok, (by show k + 1 ≤ m2; omega), by rw [flat_takeS hq, seenG_app, ← List.append_assoc]; exact hW5⟩
 refine CW.exit ?_
 refine hK16 _ _ ?_; try clear hK16
 refine CW.sr fun K26 hK26 => ?_
 refine WL.a rfl ?_
 refine WL.nil (hK26 _ _ ?_); try clear hK26
 refine CW.ret ⟨_, rfl, ?_⟩
 have hke : xe.right.take k = xe.right := List.take_of_length_le om_
 rw [hke] at hW4
 have hone : seenG ns [i] = if xe.gone = true then [] else [gx] := by
  have h1 := gOf_at hzi
  cases hg : xe.gone <;> simp [seenG, goneAt_at hze, hg, h1]
 refine ⟨rfl, v1, ?_⟩
 rw [List.append_cons, seenG_app, seenG_app, hone, ← List.append_assoc, ← List.append_assoc]
 exact hW4
theorem fwalk1_any (g rb ra : Nat) (ad : List Dig) (ns : List Nn) (gf gt gb : Nat) (wB : World) (hT : FtAt wB g rb ra ad ns) (hG : Fu.Good (Fw.els ns)) : ∀ i, i < (Fw.els ns).length → ∀ w v acc, WkAt wB w gf gt gb v acc → acc.length + (walkE (Fw.els ns) i).length ≤ 1000000 → Calls Tryd.prog 76 #[.pointer (some ⟨gOf ns i, 0, none⟩), .pointer (some ⟨gf, 0, none⟩), .pointer (some ⟨gt, 0, none⟩)] w (Ret fun r w' => r = .bool true ∧ ∃ u, WkAt wB w' gf gt gb u (acc ++ seenG ns (walkE (Fw.els ns) i))) :=
 down_ind hG.down fun i x hx ih w v acc hW hb => by
  rw [List.getElem?_map] at hx
  obtain ⟨z, hz, rfl⟩ := Option.map_eq_some_iff.1 hx
  exact fwalk1_step g rb ra ad ns gf gt gb i z wB w v acc hT hG hz (fun c hc w v acc hW hb => ih c hc (hG.down i z.el (by rw [List.getElem?_map, hz]; rfl) c hc).2 w v acc hW hb) hW hb
theorem info_fnN : ∃ i : TypeInfo, Tryd.prog.info? TFn = some i ∧ i.zero = some Value.nilFunc ∧ i.size = 1 := by
 have h : (Tryd.prog.info? TFn).map (fun i => (i.zero, i.size)) = some (some Value.nilFunc, 1) := by kernel_rfl
 obtain ⟨i, hi, h⟩ := Option.map_eq_some_iff.1 h
 injection h with h1 h2
 exact ⟨i, hi, h1, h2⟩
set_option maxRecDepth 100000 in
theorem fwalk_any (g rb ra : Nat) (ad : List Dig) (ns : List Nn) (gb : Nat) (wB w : World) (hT : FtAt wB g rb ra ad ns) (hG : Fu.Good (Fw.els ns)) (hn : ns.length ≤ 400001) (hx : Ext wB w) (hgb : wB.heap.size ≤ gb) (hB : Blk w gb TSP [.slice none 0 0]) : Calls Tryd.prog 67 #[.pointer (some ⟨g, 0, none⟩), .func (.func 68) #[] #[.pointer (some ⟨gb, 0, none⟩)]] w (Ret fun r w' => ∃ u, Blk w' gb TSP [u] ∧ Own w' TP 1 u (ptrL (seenG ns (orderE (Fw.els ns)))) ∧ (∀ k, u.ownBlock = some k → wB.heap.size ≤ k) ∧ Ext wB w') := by
 have hzx := hx.size
 obtain ⟨ifn, hif, hzf, hsf⟩ := info_fnN
 have hel : (Fw.els ns).length = ns.length := List.length_map _
 refine calls_of_CW 15 [] [(0, .pointer (some ⟨g, 0, none⟩)), (1, .func (.func 68) #[] #[.pointer (some ⟨gb, 0, none⟩)])] Tryd.func67 rfl rfl rfl (by simp) args2 ?_
 have hE : Ext w w := Chg.refl
 refine CW.sr fun K1 hK1 => ?_
 refine WL.box rfl rfl de_ fun g3 w1 hx1 hg3 hB3 => ?_
 have hlt3 := hB3.lt; have hz1 := hx1.size
 have hM3 := hB3.mem; have hz1 := hx1.size; have hE := hE.thenExt hx1
 refine WL.nil (hK1 _ _ ?_); try clear hK1
 refine CW.seq fun K2 hK2 => ?_
 refine CW.sr fun K3 hK3 => ?_
 refine WL.m rfl ?_
 refine WL.call Tryd.func34 rfl rfl rfl (fmade_any g rb ra ad ns _ ((hT.ext hx).ext hE)) (by simp) ?_; rintro v w2 ⟨rfl, hx2⟩; have hz2 := hx2.size; have hE := hE.thenExt hx2; have hB3 := hB3.ext hx2
 refine WL.v (Y.not rfl) ?_
 refine WL.nil (hK3 _ _ ?_); try clear hK3
 (first | refine cd_ rfl ?_ ?_ | refine ce_ rfl ?_ ?_ | refine cn_ rfl ?_ ?_ | refine cb_ rfl ?_ ?_) <;> intro ht4
 ·
  -- then
  refine CW.ret ⟨_, rfl, ?_⟩
  exact absurd (show true = false by assumption) de_
 refine CW.skip ?_
 refine hK2 _ _ ?_; try clear hK2
 refine CW.sr fun K5 hK5 => ?_
 refine WL.alloc (hif) (hzf) rfl de_ fun g4 w3 hx3 hg4 hB4 => ?_
 have hlt4 := hB4.lt; have hz3 := hx3.size
 have hM4 := hB4.mem; have hz3 := hx3.size; have hE := hE.thenExt hx3; have hB3 := hB3.ext hx3
 refine WL.nil (hK5 _ _ ?_); try clear hK5
 refine CW.sr fun K6 hK6 => ?_
 refine WL.v (Y.makeFunc rfl) ?_
 refine WL.store (g := g4) (pre := []) (old := [Value.nilFunc]) (post := []) (new := [.func (.func 76) #[] #[.pointer (some ⟨g4, 0, none⟩), .pointer (some ⟨g3, 0, none⟩)]]) rfl rfl rfl rfl kr_ (by simpa using hB4) ln_ (one1 rfl) (fun w4 hc4 hB4_ => ?_)
 have hz4 := hc4.size; have hE := hE.step hc4 (fun k h => by omega); have hB3 := hB3.chg hc4 no_
 have hB4 : Blk w4 g4 TFn [.func (.func 76) #[] #[.pointer (some ⟨g4, 0, none⟩), .pointer (some ⟨g3, 0, none⟩)]] := by simpa using hB4_
 have hWk : WkAt wB w4 g4 g3 gb (.slice none 0 0) [] := ⟨hx.thenExt hE, hB4, hB3, hB.ext hE, Own.nil, fun k hk => (by simp [Value.ownBlock] at hk), ⟨by omega, by omega, hgb⟩⟩
 refine WL.nil (hK6 _ _ ?_); try clear hK6
 refine CW.head 5 kr_ kr_ fun w5 hx5 => ?_
 skip; have hz5 := hx5.size; have hE := hE.thenExt hx5; have hB3 := hB3.ext hx5; have hB4 := hB4.ext hx5
 refine HL.val (Y.load1 Tryd.underlying156 rfl hB4.mem.cell0 rfl) de_ ?_
 refine HL.val (Y.move rfl) de_ ?_
 refine HL.val (Y.nilCheck rfl) de_ ?_
 refine HL.val (Y.fieldAddr fo_fugueTree0 rfl) de_ ?_
 refine HL.val (Y.load1 Tryd.underlying101 rfl ((hT.ext hx).ext hE).blk.mem.fugueTree0 rfl) de_ ?_
 refine HL.nil ?_
 refine WL.callV rfl Tryd.func76 rfl rfl rfl (fwalk1_any g rb ra ad ns g4 g3 gb wB hT hG 0 hG.pos _ _ [] (hWk.then hx5) (by have h9 := hG.perm.length_eq; rw [List.length_range, hel] at h9; show 0 + (orderE (Fw.els ns)).length ≤ _; omega)) (by simp) ?_; rintro v14 w6 hR6
 obtain ⟨rfl, u, hWu⟩ := hR6
 refine WL.nil ?_
 refine ⟨_, rfl, ?_⟩
 exact ⟨u, hWu.box, by simpa using hWu.own, hWu.new, hWu.ext⟩
theorem flist_any (g rb ra : Nat) (ad : List Dig) (ns : List Nn) (w : World) (hT : FtAt w g rb ra ad ns) (hG : Fu.Good (Fw.els ns)) (hn : ns.length ≤ 400001) : Calls Tryd.prog 48 #[.pointer (some ⟨g, 0, none⟩)] w (Ret fun v w' => Own w' TP 1 v (ptrL ((seenE (Fw.els ns)).map (gOf ns))) ∧ (∀ k, v.ownBlock = some k → w.heap.size ≤ k) ∧ Ext w w') := by
 refine calls_of_CW 8 [2] [(0, .pointer (some ⟨g, 0, none⟩))] Tryd.func48 rfl rfl rfl (by simp) args1 ?_
 have hE : Ext w w := Chg.refl
 refine CW.sr fun K1 hK1 => ?_
 refine WL.a rfl ?_
 refine WL.nil (hK1 _ _ ?_); try clear hK1
 refine CW.sr fun K2 hK2 => ?_
 refine WL.alloc1 (z := .slice none 0 0) kr_ rfl de_ fun g3 w1 hx1 hg3 hB3 => ?_
 have hlt3 := hB3.lt; have hz1 := hx1.size
 have hM3 := hB3.mem; have hz1 := hx1.size; have hE := hE.thenExt hx1
 refine WL.nil (hK2 _ _ ?_); try clear hK2
 refine CW.sr fun K3 hK3 => ?_
 refine WL.m rfl ?_
 refine WL.v (Y.makeFunc rfl) ?_
 refine WL.call Tryd.func67 rfl rfl rfl (fwalk_any g rb ra ad ns g3 w _ hT hG hn hE om_ hB3) (by simp) ?_; rintro v6 w2 hR2
 obtain ⟨u, hBu, hOu, hnu, hxu⟩ := hR2
 have hB3 := hBu
 have hE := hxu
 refine WL.nil (hK3 _ _ ?_); try clear hK3
 refine CW.sr fun K4 hK4 => ?_
 refine WL.v (Y.load1 Tryd.underlying102 rfl hB3.mem.cell0 rfl) ?_
 refine WL.a rfl ?_
 refine WL.nil (hK4 _ _ ?_); try clear hK4
 refine CW.ret ⟨_, rfl, ?_⟩
 exact ⟨hOu, hnu, hxu⟩
end Go.Proofs.YtmehkigmnpjcjaaDoor
/- Fugue's tree: Text, Ref, Place, Gap, walked. No condition. -/
namespace Go.Proofs.YtmehkigmnpjcjaaDoor
open Go.RowKit Go.Fw Go.Fu Go.Pl
theorem gapI_lt {e : List El} (hG : Fu.Good e) {n : Int} (h0 : 0 ≤ n) (h1 : n ≤ ((seenE e).length : Int)) : gapI e n < e.length := by
 unfold gapI
 by_cases h : n = 0
 ·
  rw [if_pos h]; exact hG.pos
 ·
  rw [if_neg h]
  obtain ⟨q, hq⟩ : ∃ q, (seenE e)[(n - 1).toNat]? = some q := ⟨_, List.getElem?_eq_getElem om_⟩
  rw [hq]; exact seen_lt hG.down (List.mem_of_getElem? hq)
theorem ftext_any (g rb ra : Nat) (ad : List Dig) (ns : List Nn) (w : World) (hT : FtAt w g rb ra ad ns) (hG : Fu.Good (Fw.els ns)) (hn : ns.length ≤ 400001) : Calls Tryd.prog 24 #[.pointer (some ⟨g, 0, none⟩)] w (Ret fun v w' => v = .string (bs (textE (Fw.els ns))) ∧ Ext w w') := by
 have hlv : (seenE (Fw.els ns)).length = liveN ns := hG.seen_length
 have hel : (Fw.els ns).length = ns.length := List.length_map _
 have hsl : ∀ q, q ∈ seenE (Fw.els ns) → q < ns.length := fun q hq => by rw [← hel]; exact seen_lt hG.down hq
 obtain ⟨ir, hir, hzr, hsr⟩ := info_apiRef
 have hli : (seenE (Fw.els ns)).length ≤ 400001 := by
  have := List.countP_le_length (p := fun x : El => !x.gone) (l := Fw.els ns)
  rw [hlv]; rw [List.length_map] at this; exact Nat.le_trans this hn
 refine calls_of_CW 23 [2] [(0, .pointer (some ⟨g, 0, none⟩))] Tryd.func24 rfl rfl rfl (by simp) args1 ?_
 have hE : Ext w w := Chg.refl
 refine CW.sr fun K1 hK1 => ?_
 refine WL.a rfl ?_
 refine WL.nil (hK1 _ _ ?_); try clear hK1
 refine CW.sr fun K2 hK2 => ?_
 refine WL.a rfl ?_
 refine WL.nil (hK2 _ _ ?_); try clear hK2
 refine CW.seq fun K3 hK3 => ?_
 refine CW.sr fun K4 hK4 => ?_
 refine WL.m rfl ?_
 refine WL.call Tryd.func48 rfl rfl rfl (flist_any g rb ra ad ns _ hT hG hn) (by simp) ?_; rintro v7 w1 hR1
 obtain ⟨hO1, hf1, hx1⟩ := hR1
 obtain ⟨A, m, c, rfl⟩ := hO1.lens
 obtain ⟨hlm, hlg⟩ := ptr_map hO1
 have hcc := (hO1.mem A m c rfl).2.2.2
 unfold maxLen at hcc
 have hE := hE.thenExt hx1
 refine WL.v (Y.len_slice Tryd.underlying102 rfl) ?_
 refine WL.m rfl ?_
 refine WL.nil (hK4 _ _ ?_); try clear hK4
 refine CW.block ?_
 refine CW.loop (X := Nat × Value) (fun x => [(0, .pointer (some ⟨g, 0, none⟩)), (3, x.2), (7, .slice A m c), (8, .int .i64 (m : Int)), (9, .int .i64 (x.1 : Int))]) (fun x w0 => x.1 ≤ m ∧ Own w0 5 1 x.2 (bytesC (((seenE (Fw.els ns)).take x.1).map (byteAt (Fw.els ns)))) ∧ Own w0 TP 1 (.slice A m c) (ptrL ((seenE (Fw.els ns)).map (gOf ns))) ∧ (∀ k, x.2.ownBlock = some k → w.heap.size ≤ k) ∧ Ext w w0) (fun x => m - x.1) (0, .slice none 0 0) Fr.ok ⟨Nat.zero_le _, Own.nil, hO1, (fun k hk => by simp [Value.ownBlock] at hk), hE⟩ ?_
 intro x w2 hl2
 obtain ⟨k, bv⟩ := x
 dsimp only at hl2 ⊢
 obtain ⟨hkm, hOb, hOl, hfb, hE⟩ := hl2
 obtain ⟨hlm, hlg⟩ := ptr_map hOl
 refine CW.sr fun K5 hK5 => ?_
 refine WL.v (Y.lss rfl rfl) ?_
 refine WL.nil (hK5 _ _ ?_); try clear hK5
 refine CW.seq fun K6 hK6 => ?_
 (first | refine cd_ rfl ?_ ?_ | refine ce_ rfl ?_ ?_ | refine cn_ rfl ?_ ?_ | refine cb_ rfl ?_ ?_) <;> intro ht7
 ·
  -- then
  refine CW.skip ?_
  refine hK6 _ _ ?_; try clear hK6
  refine CW.seq fun K8 hK8 => ?_
  refine CW.block ?_
  refine CW.seq fun K9 hK9 => ?_
  obtain ⟨q, hq⟩ : ∃ q, (seenE (Fw.els ns))[k]? = some q := ⟨_, List.getElem?_eq_getElem om_⟩
  obtain ⟨a, rfl, hma⟩ := hlg k q hq
  obtain ⟨z, hz⟩ : ∃ z, ns[q]? = some z := ⟨_, List.getElem?_eq_getElem (hsl q (List.mem_of_getElem? hq))⟩
  have hze : (Fw.els ns)[q]? = some z.el := by rw [List.getElem?_map, hz]; rfl
  have hzb := (hT.node q z hz).ext hE
  rw [gOf_at hz] at hma
  refine CW.region ?_
  refine WL.v (Y.indexAddrN Tryd.underlying102 rfl rfl sz0_fuguenode om_) ?_
  refine WL.v (Y.load1 Tryd.underlying101 rfl hma.cell0 rfl) ?_
  refine WL.a rfl ?_
  refine WL.nil (hK9 _ _ ?_); try clear hK9
  refine CW.region ?_
  refine WL.m rfl ?_
  refine WL.m rfl ?_
  refine WL.v (Y.nilCheck rfl) ?_
  refine WL.v (Y.fieldAddr fo_fuguenode1 rfl) ?_
  refine WL.v (Y.load1 Tryd.underlying5 rfl hzb.mem.fuguenode1 rfl) ?_
  refine WL.st (St.buildSlice rfl (bs1 _)) de_ fun v18 w3 hR3 => ?_
  obtain ⟨g18, rfl, hg18, hB18, hx3⟩ := hR3
  have hz3 := hx3.size
  refine WL.st (St.app (ys := [z.el.byte]) Tryd.underlying69 Tryd.underlying69 ai_u8 rfl rfl (hOb.ext hx3) (Blk.src1 hB18) (by rw [List.length_map, List.length_take]; omega)) de_ fun v19 w4 hR4 => ?_
  obtain ⟨hO4, hc4, hf4⟩ := hR4
  have hz4 := hc4.size
  have hE4 : Ext w w4 := (hE.thenExt hx3).step hc4 (fun k h => hfb k h)
  have hOl4 := (hOl.ext hx3).chg hc4 (fun k hk h => by
   obtain ⟨_, _, h1⟩ := (hOl.ext hx3).kind hk
   obtain ⟨_, _, h2⟩ := (hOb.ext hx3).kind h
   rw [h1] at h2; injection h2 with h2; injection h2 with _ h2; exact absurd h2 de_)
  refine WL.a rfl ?_
  refine WL.nil (hK8 _ _ ?_); try clear hK8
  refine CW.region ?_
  refine WL.v (Y.add rfl rfl o2_) ?_
  refine WL.m rfl ?_
  refine WL.nil ?_
  exact ⟨(k + 1, v19), (by show m - (k + 1) < m - k; omega), Fr.ok, (by show k + 1 ≤ m; omega), (by rw [List.take_add_one, hq]; simpa [byteAt_at hze] using hO4), hOl4, (fun q hq => by rcases hf4 with e | e; rw [e] at hq; exact hfb q hq; have := e q hq; have := hE.size; omega), hE4⟩
 refine CW.exit ?_
 refine hK3 _ _ ?_; try clear hK3
 refine CW.seq fun K10 hK10 => ?_
 have hke : (seenE (Fw.els ns)).take k = seenE (Fw.els ns) := List.take_of_length_le om_
 rw [hke] at hOb
 obtain ⟨Ab, mb, cb, rfl⟩ := hOb.lens
 obtain ⟨hm1, hm2, hm3, _⟩ := hOb.mem Ab mb cb rfl
 rw [bytesC_length, Nat.mul_one] at hm3
 refine CW.region ?_
 refine WL.m rfl ?_
 refine WL.v (Y.bytes_string Tryd.underlying69 Tryd.underlying5 Tryd.underlying9 rfl (l := (seenE (Fw.els ns)).map (byteAt (Fw.els ns))) hm3 hm1 hm2) ?_
 refine WL.a rfl ?_
 refine WL.nil (hK10 _ _ ?_); try clear hK10
 refine CW.ret ⟨_, rfl, ?_⟩
 exact ⟨rfl, hE⟩
set_option maxHeartbeats 1000000 in
theorem fgap_any (g rb ra : Nat) (ad : List Dig) (ns : List Nn) (n : Int) (w : World) (hT : FtAt w g rb ra ad ns) (hG : Fu.Good (Fw.els ns)) (hn : ns.length ≤ 400001) : Calls Tryd.prog 55 #[.pointer (some ⟨g, 0, none⟩), .int .i64 n] w (Ret fun v w' => v = .tuple #[refV (gapE (Fw.els ns) n).1, .bool (gapE (Fw.els ns) n).2.1, .bool (gapE (Fw.els ns) n).2.2] ∧ Ext w w') := by
 have hlv : (seenE (Fw.els ns)).length = liveN ns := hG.seen_length
 have hel : (Fw.els ns).length = ns.length := List.length_map _
 have hsl : ∀ q, q ∈ seenE (Fw.els ns) → q < ns.length := fun q hq => by rw [← hel]; exact seen_lt hG.down hq
 obtain ⟨ir, hir, hzr, hsr⟩ := info_apiRef
 have hli : (seenE (Fw.els ns)).length ≤ 400001 := by
  have := List.countP_le_length (p := fun x : El => !x.gone) (l := Fw.els ns)
  rw [hlv]; rw [List.length_map] at this; exact Nat.le_trans this hn
 refine calls_of_CWct 69 4 34 [5, 6] [(0, .pointer (some ⟨g, 0, none⟩)), (1, .int .i64 n)] Tryd.func55 rfl rfl rfl Tryd.underlying60 rfl kr_ (by simp) args2 ?_
 have hE : Ext w w := Chg.refl
 refine CW.sr fun K1 hK1 => ?_
 refine WL.alloc (hir) (hzr) rfl de_ fun g4 w1 hx1 hg4 hB4 => ?_
 have hlt4 := hB4.lt; have hz1 := hx1.size
 have hM4 := hB4.mem; have hz1 := hx1.size; have hE := hE.thenExt hx1
 refine WL.a rfl ?_
 refine WL.a rfl ?_
 refine WL.nil (hK1 _ _ ?_); try clear hK1
 refine CW.seq fun K2 hK2 => ?_
 refine CW.seq_testE 23 (n < 0 ∨ (liveN ns : Int) < n) ?_ ?_
 ·
  refine CW.region ?_
  refine WL.m rfl ?_
  refine WL.call Tryd.func34 rfl rfl rfl (fmade_any g rb ra ad ns _ (hT.ext hE)) (by simp) ?_; rintro v w2 ⟨rfl, hx2⟩; have hz2 := hx2.size; have hE := hE.thenExt hx2; have hB4 := hB4.ext hx2
  refine WL.v (Y.not rfl) ?_
  refine WL.m rfl ?_
  (first | refine WL.casesD (d := 12) rfl ?_ ?_ | refine WL.casesND (d := 12) rfl ?_ ?_ | refine WL.cases (d := 12) rfl ?_ ?_) <;> intro hg12
  ·
   -- t12 = T
   refine WL.o rfl rfl ?_
   refine WL.o rfl rfl ?_
   refine WL.v (Y.pick rfl rfl) ?_
   refine WL.m rfl ?_
   refine WL.o rfl rfl ?_
   refine WL.o rfl rfl ?_
   refine WL.o rfl rfl ?_
   refine WL.o rfl rfl ?_
   refine WL.o rfl rfl ?_
   refine WL.o rfl rfl ?_
   refine WL.v (Y.pick rfl rfl) ?_
   refine WL.nil ⟨⟨_, rfl, ?_⟩, hx2, Fr.okp⟩
   exact tst_ok
  ·
   -- t12 = F
   refine WL.g rfl rfl (Y.move rfl) ?_
   refine WL.g rfl rfl (Y.lss rfl rfl) ?_
   refine WL.v (Y.pick rfl rfl) ?_
   refine WL.m rfl ?_
   (first | refine WL.casesD (d := 16) rfl ?_ ?_ | refine WL.casesND (d := 16) rfl ?_ ?_ | refine WL.cases (d := 16) rfl ?_ ?_) <;> intro hg16
   ·
    -- t16 = T
    refine WL.o rfl rfl ?_
    refine WL.o rfl rfl ?_
    refine WL.o rfl rfl ?_
    refine WL.o rfl rfl ?_
    refine WL.o rfl rfl ?_
    refine WL.o rfl rfl ?_
    refine WL.v (Y.pick rfl rfl) ?_
    refine WL.nil ⟨⟨_, rfl, ?_⟩, hx2, Fr.okp⟩
    exact tst_ok
   ·
    -- t16 = F
    refine WL.g rfl rfl (Y.move rfl) ?_
    refine WL.g rfl rfl (Y.move rfl) ?_
    refine WL.g rfl rfl (Y.nilCheck rfl) ?_
    refine WL.g rfl rfl (Y.fieldAddr fo_fugueTree3 rfl) ?_
    refine WL.g rfl rfl (Y.load1 Tryd.underlying3 rfl ((hT.ext hE).blk.mem.fugueTree3) rfl) ?_
    refine WL.g rfl rfl (Y.gtr rfl rfl) ?_
    refine WL.v (Y.pick rfl rfl) ?_
    refine WL.nil ⟨⟨_, rfl, ?_⟩, hx2, Fr.okp⟩
    exact tst_ok
 intro w3 hx3; have hz3 := hx3.size; have hE := hE.thenExt hx3; have hB4 := hB4.ext hx3
 (first | refine cd_ rfl ?_ ?_ | refine ce_ rfl ?_ ?_ | refine cn_ rfl ?_ ?_ | refine cb_ rfl ?_ ?_) <;> intro ht3
 ·
  -- then
  refine CW.sr fun K4 hK4 => ?_
  refine WL.v (Y.build0 (build_apiRef _)) ?_
  refine WL.store (g := g4) (pre := []) (old := refC RefD.zero) (post := []) (new := refC RefD.zero) rfl rfl rfl rfl (sz_apiRef _) (by simpa using hB4) (by simp only [refC_length]) (one_refC) (fun w4 hc4 hB4_ => ?_)
  have hz4 := hc4.size; have hE := hE.step hc4 (fun k h => by omega)
  have hB4 : Blk w4 g4 60 (refC RefD.zero) := by simpa using hB4_
  refine WL.a rfl ?_
  refine WL.a rfl ?_
  refine WL.nil (hK4 _ _ ?_); try clear hK4
  refine CW.ret ?_
  exact ⟨_, _, _, rfl, hB4.mem, refC_length _, rfl, ⟨by rw [gapE, if_pos (by rw [hlv]; assumption)], hE⟩⟩
 refine CW.skip ?_
 refine hK2 _ _ ?_; try clear hK2
 refine CW.sr fun K5 hK5 => ?_
 refine WL.m rfl ?_
 refine WL.v (Y.nilCheck rfl) ?_
 refine WL.v (Y.fieldAddr fo_fugueTree0 rfl) ?_
 refine WL.v (Y.load1 Tryd.underlying101 rfl ((hT.ext hE).blk.mem.fugueTree0) rfl) ?_
 refine WL.a rfl ?_
 refine WL.nil (hK5 _ _ ?_); try clear hK5
 refine CW.seq_to (X := Unit) (fun _ => [(0, .pointer (some ⟨g, 0, none⟩)), (1, .int .i64 n), (4, .pointer (some ⟨g4, 0, none⟩)), (7, .pointer (some ⟨gOf ns (gapI (Fw.els ns) n), 0, none⟩))]) (fun _ w0 => Ext w w0 ∧ Blk w0 g4 60 (refC RefD.zero)) ?_ ?_
 ·
  skip
  refine CW.sr fun K7 hK7 => ?_
  refine WL.m rfl ?_
  refine WL.v (Y.gtr rfl rfl) ?_
  refine WL.nil (hK7 _ _ ?_); try clear hK7
  (first | refine cd_ rfl ?_ ?_ | refine ce_ rfl ?_ ?_ | refine cn_ rfl ?_ ?_ | refine cb_ rfl ?_ ?_) <;> intro ht8
  ·
   -- then
   refine CW.region ?_
   refine WL.m rfl ?_
   refine WL.call Tryd.func48 rfl rfl rfl (flist_any g rb ra ad ns _ (hT.ext hE) hG hn) (by simp) ?_; rintro v32 w5 hR5
   obtain ⟨hO5, hf5, hx5⟩ := hR5
   obtain ⟨A, m, c, rfl⟩ := hO5.lens
   obtain ⟨hlm, hlg⟩ := ptr_map hO5
   have hcc := (hO5.mem A m c rfl).2.2.2
   unfold maxLen at hcc
   have hE := hE.thenExt hx5
   have hB4 := hB4.ext hx5
   obtain ⟨i, rfl⟩ : ∃ i : Nat, n = (i : Int) + 1 := ⟨(n - 1).toNat, by omega⟩
   obtain ⟨q, hq⟩ : ∃ q, (seenE (Fw.els ns))[i]? = some q := ⟨_, List.getElem?_eq_getElem om_⟩
   obtain ⟨a, rfl, hma⟩ := hlg i q hq
   obtain ⟨z, hz⟩ : ∃ z, ns[q]? = some z := ⟨_, List.getElem?_eq_getElem (hsl q (List.mem_of_getElem? hq))⟩
   have hze : (Fw.els ns)[q]? = some z.el := by rw [List.getElem?_map, hz]; rfl
   have hzb := (hT.node q z hz).ext hE
   rw [gOf_at hz] at hma
   have hgi : gapI (Fw.els ns) ((i : Int) + 1) = q := by rw [gapI, if_neg om_, show ((i : Int) + 1 - 1).toNat = i by omega, hq]; rfl
   refine WL.m rfl ?_
   refine WL.v (Y.sub rfl rfl o2_) ?_
   rw [show ((i : Int) + 1 - 1) = (i : Int) by omega]
   refine WL.v (Y.indexAddrN Tryd.underlying102 rfl rfl sz0_fuguenode om_) ?_
   refine WL.v (Y.load1 Tryd.underlying101 rfl (hma.cell0) rfl) ?_
   refine WL.a rfl ?_
   refine WL.nil ?_
   exact ⟨(), (by rw [hgi, gOf_at hz]; exact Fr.ok), hE, hB4⟩
  refine CW.skip ?_
  have hn0 : n = 0 := by omega
  subst hn0
  exact ⟨(), Fr.ok, hE, hB4⟩
 rintro u w6 hj6
 obtain ⟨hE, hB4⟩ := hj6
 have hgl := gapI_lt hG (n := n) om_ (by rw [hlv]; omega)
 rw [hel] at hgl
 obtain ⟨⟨xe, gx, lv, rv⟩, hz⟩ : ∃ z, ns[gapI (Fw.els ns) n]? = some z := ⟨_, List.getElem?_eq_getElem hgl⟩
 have hze : (Fw.els ns)[gapI (Fw.els ns) n]? = some xe := by rw [List.getElem?_map, hz]; rfl
 have hzb0 : Blk w gx TN (nodeC xe lv rv) := hT.node _ _ hz
 have hzb := hzb0.ext hE
 have hkr : Own w TP 1 rv (ptrL (xe.right.map (gOf ns))) := hT.kids _ _ false hz
 obtain ⟨A2, m2, c2, rfl⟩ := hkr.lens
 obtain ⟨hrm, hrg⟩ := ptr_map hkr
 have hge : gapE (Fw.els ns) n = ((gapAt (Fw.els ns) (gapI (Fw.els ns) n)).1, (gapAt (Fw.els ns) (gapI (Fw.els ns) n)).2, true) := by rw [gapE, if_neg (by rw [hlv]; assumption)]
 rw [gOf_at hz]
 refine CW.seq fun K9 hK9 => ?_
 refine CW.sr fun K10 hK10 => ?_
 refine WL.m rfl ?_
 refine WL.v (Y.nilCheck rfl) ?_
 refine WL.v (Y.fieldAddr fo_fuguenode4 rfl) ?_
 refine WL.v (Y.load1 Tryd.underlying102 rfl hzb.mem.fuguenode4 rfl) ?_
 refine WL.v (Y.len_slice Tryd.underlying102 rfl) ?_
 refine WL.v (Y.eql rfl rfl) ?_
 refine WL.nil (hK10 _ _ ?_); try clear hK10
 (first | refine cd_ rfl ?_ ?_ | refine ce_ rfl ?_ ?_ | refine cn_ rfl ?_ ?_ | refine cb_ rfl ?_ ?_) <;> intro ht11
 ·
  -- then
  refine CW.sr fun K12 hK12 => ?_
  refine WL.m rfl ?_
  refine WL.v (Y.nilCheck rfl) ?_
  refine WL.v (Y.fieldAddr fo_fuguenode0 rfl) ?_
  refine WL.v (Y.load Tryd.underlying60 rfl hzb.mem.fuguenode0 (sz_apiRef _) rfl) ?_
  refine WL.store (g := g4) (pre := []) (old := refC RefD.zero) (post := []) (new := refC xe.name) rfl rfl rfl rfl (sz_apiRef _) (by simpa using hB4) (by simp only [refC_length]) (one_refC) (fun w7 hc7 hB7_ => ?_)
  have hz7 := hc7.size; have hE := hE.step hc7 (fun k h => by omega)
  have hB4 : Blk w7 g4 60 (refC xe.name) := by simpa using hB7_
  refine WL.a rfl ?_
  refine WL.a rfl ?_
  refine WL.nil (hK12 _ _ ?_); try clear hK12
  refine CW.ret ?_
  have hr0 : xe.right = [] := List.length_eq_zero_iff.1 om_
  have hga : gapAt (Fw.els ns) (gapI (Fw.els ns) n) = (xe.name, false) := by rw [gapAt, hze]; simp only [Option.map_some, Option.getD_some, hr0]; rw [nm_at hze]
  exact ⟨_, _, _, rfl, hB4.mem, refC_length _, rfl, ⟨by rw [hge, hga], hE⟩⟩
 refine CW.skip ?_
 refine hK9 _ _ ?_; try clear hK9
 refine CW.seq fun K13 hK13 => ?_
 obtain ⟨c0, r0, hrc⟩ : ∃ c r, xe.right = c :: r := by
  cases hr : xe.right with
  | nil => rw [hr] at hrm; simp at hrm; omega
  | cons c r => exact ⟨c, r, rfl⟩
 obtain ⟨a2, rfl, hma2⟩ := hrg 0 c0 (by rw [hrc]; rfl)
 have hc0 := hG.down _ _ hze c0 (.inr (by rw [hrc]; simp))
 rw [hel] at hc0
 have hga : gapAt (Fw.els ns) (gapI (Fw.els ns) n) = (nm (Fw.els ns) (lmE (Fw.els ns) c0), true) := by rw [gapAt, hze]; simp only [Option.map_some, Option.getD_some, hrc]
 refine CW.region ?_
 refine WL.m rfl ?_
 refine WL.v (Y.nilCheck rfl) ?_
 refine WL.v (Y.fieldAddr fo_fuguenode4 rfl) ?_
 refine WL.v (Y.load1 Tryd.underlying102 rfl hzb.mem.fuguenode4 rfl) ?_
 refine WL.v (Y.indexAddrN (i := 0) Tryd.underlying102 rfl rfl sz0_fuguenode om_) ?_
 refine WL.v (Y.load1 Tryd.underlying101 rfl ((hma2.ext hE).cell0) rfl) ?_
 refine WL.a rfl ?_
 refine WL.nil (hK13 _ _ ?_); try clear hK13
 refine CW.seq fun K14 hK14 => ?_
 refine CW.block ?_
 refine CW.loop (X := Nat) (fun x => [(0, .pointer (some ⟨g, 0, none⟩)), (1, .int .i64 n), (4, .pointer (some ⟨g4, 0, none⟩)), (8, .pointer (some ⟨gOf ns x, 0, none⟩))]) (fun x w0 => x < ns.length ∧ lmE (Fw.els ns) x = lmE (Fw.els ns) c0 ∧ Ext w w0 ∧ Blk w0 g4 60 (refC RefD.zero)) (fun x => ns.length - x) c0 Fr.ok ⟨hc0.2, rfl, hE, hB4⟩ ?_
 intro x w8 hl8
 obtain ⟨hxl, hlme, hE, hB4⟩ := hl8
 obtain ⟨⟨xl, gl, lv2, rv2⟩, hz2⟩ : ∃ z, ns[x]? = some z := ⟨_, List.getElem?_eq_getElem hxl⟩
 have hzl : (Fw.els ns)[x]? = some xl := by rw [List.getElem?_map, hz2]; rfl
 have hzb2 : Blk w gl TN (nodeC xl lv2 rv2) := hT.node _ _ hz2
 have hzb := hzb2.ext hE
 have hkl : Own w TP 1 lv2 (ptrL (xl.left.map (gOf ns))) := hT.kids _ _ true hz2
 obtain ⟨A3, m3, c3, rfl⟩ := hkl.lens
 obtain ⟨hlm, hlg⟩ := ptr_map hkl
 rw [gOf_at hz2]
 refine CW.seq fun K15 hK15 => ?_
 refine CW.sr fun K16 hK16 => ?_
 refine WL.m rfl ?_
 refine WL.v (Y.nilCheck rfl) ?_
 refine WL.v (Y.fieldAddr fo_fuguenode3 rfl) ?_
 refine WL.v (Y.load1 Tryd.underlying102 rfl hzb.mem.fuguenode3 rfl) ?_
 refine WL.v (Y.len_slice Tryd.underlying102 rfl) ?_
 refine WL.v (Y.gtr rfl rfl) ?_
 refine WL.nil (hK16 _ _ ?_); try clear hK16
 (first | refine cd_ rfl ?_ ?_ | refine ce_ rfl ?_ ?_ | refine cn_ rfl ?_ ?_ | refine cb_ rfl ?_ ?_) <;> intro ht17
 ·
  -- then
  refine CW.skip ?_
  refine hK15 _ _ ?_; try clear hK15
  refine CW.block ?_
  obtain ⟨c1, r1, hlc⟩ : ∃ c r, xl.left = c :: r := by
   cases hr : xl.left with
   | nil => rw [hr] at hlm; simp at hlm; omega
   | cons c r => exact ⟨c, r, rfl⟩
  obtain ⟨a3, rfl, hma3⟩ := hlg 0 c1 (by rw [hlc]; rfl)
  have hc1 := hG.down _ _ hzl c1 (.inl (by rw [hlc]; simp))
  rw [hel] at hc1
  refine CW.region ?_
  refine WL.m rfl ?_
  refine WL.v (Y.nilCheck rfl) ?_
  refine WL.v (Y.fieldAddr fo_fuguenode3 rfl) ?_
  refine WL.v (Y.load1 Tryd.underlying102 rfl hzb.mem.fuguenode3 rfl) ?_
  refine WL.v (Y.indexAddrN (i := 0) Tryd.underlying102 rfl rfl sz0_fuguenode om_) ?_
  refine WL.v (Y.load1 Tryd.underlying101 rfl ((hma3.ext hE).cell0) rfl) ?_
  refine WL.a rfl ?_
  refine WL.nil ?_
  exact ⟨c1, (by show ns.length - c1 < ns.length - x; omega), Fr.ok, hc1.2, (by rw [← hlme, lm_eq hG.down hzl, hlc]), hE, hB4⟩
 refine CW.exit ?_
 refine hK14 _ _ ?_; try clear hK14
 refine CW.sr fun K18 hK18 => ?_
 refine WL.m rfl ?_
 refine WL.v (Y.nilCheck rfl) ?_
 refine WL.v (Y.fieldAddr fo_fuguenode0 rfl) ?_
 refine WL.v (Y.load Tryd.underlying60 rfl hzb.mem.fuguenode0 (sz_apiRef _) rfl) ?_
 refine WL.store (g := g4) (pre := []) (old := refC RefD.zero) (post := []) (new := refC xl.name) rfl rfl rfl rfl (sz_apiRef _) (by simpa using hB4) (by simp only [refC_length]) (one_refC) (fun w9 hc9 hB9_ => ?_)
 have hz9 := hc9.size; have hE := hE.step hc9 (fun k h => by omega)
 have hB4 : Blk w9 g4 60 (refC xl.name) := by simpa using hB9_
 refine WL.a rfl ?_
 refine WL.a rfl ?_
 refine WL.nil (hK18 _ _ ?_); try clear hK18
 refine CW.ret ?_
 have hl0 : xl.left = [] := List.length_eq_zero_iff.1 om_
 have hlx : lmE (Fw.els ns) c0 = x := by rw [← hlme, lm_eq hG.down hzl, hl0]
 exact ⟨_, _, _, rfl, hB4.mem, refC_length _, rfl, ⟨by rw [hge, hga, hlx, nm_at hzl], hE⟩⟩
end Go.Proofs.YtmehkigmnpjcjaaDoor
/- Slices of ints, and of elements of several cells, of our own: made, read, written, cleared; method values. No condition. -/
namespace Go.Fw
open Go.RowKit
theorem range_cells {c : Array Value} : ∀ m : Nat, (List.range (m * c.size)).map (fun i => c[i % c.size]!) = (List.replicate m c.toList).flatten
 | 0 => by simp
 | m + 1 => by
  have ih := range_cells (c := c) m
  rw [Nat.succ_mul, List.range_add, List.map_append, ih, List.replicate_succ', List.flatten_append]
  congr 1
  rw [List.map_map]
  simp only [List.flatten_cons, List.flatten_nil, List.append_nil]
  apply List.ext_getElem?
  intro j
  rw [List.getElem?_map]
  by_cases hj : j < c.size
  ·
   rw [List.getElem?_range hj]
   have e : (m * c.size + j) % c.size = j := by rw [Nat.mul_comm, Nat.mul_add_mod]; exact Nat.mod_eq_of_lt hj
   simp only [Option.map_some, Function.comp_apply, e, Array.getElem?_toList]
   simp [hj]
  ·
   rw [List.getElem?_eq_none (by simpa using hj), List.getElem?_eq_none (by simpa using hj)]
   rfl
theorem madeCells_flat {c : Array Value} (m : Nat) : madeCells c (m * c.size) = ((List.replicate m c.toList).flatten).toArray := by
 unfold madeCells
 rw [← range_cells]
 apply Array.ext'
 simp [Array.toList_range]
def MakeInfo (P : Program) (e : TypeId) (zs : List Value) (b : Nat) : Prop := ∃ i z, P.info? e = some i ∧ i.zero = some z ∧ z.cells = zs.toArray ∧ i.size = zs.length ∧ i.bytes = b
section
variable {P : Program} {n : NN} {Φ : Exit → Fr → World → Prop} {fr : Fr} {w : World} {ty : TypeId} {e : TypeId}
theorem St.makeK {t : TypeId} {x y : Operand} {k k' : IntKind} {m b : Nat} {zs : List Value} (hT : P.underlying t = some (.slice e)) (hi : MakeInfo P e zs b)
  (hx : ev fr x = some (.int k (m : Int))) (hy : ev fr y = some (.int k' (m : Int))) (hm : b * m ≤ 281474976710656) (hm2 : m ≤ 9223372036854775807) :
  St P n fr (.makeSlice t x y) ty w (fun v w' => ∃ g, v = .slice (some ⟨g, 0, none⟩) m m ∧ w.heap.size ≤ g ∧ Blk w' g e ((List.replicate m zs).flatten) ∧ Ext w w') := fun a o' ho hty ha => by
 obtain ⟨i, z, hi, hz, hzc, hs, rfl⟩ := hi
 have hr := run_make (P := P) w t e i z hT hi hz k k' (m : Int) (m : Int) om_ (Int.le_refl _) (by rw [← Int.natCast_mul]; omega) om_
 simp only [Int.toNat_natCast] at hr
 have hsz : i.size = z.cells.size := by rw [hs, hzc]; simp
 rw [hsz, madeCells_flat, hzc] at hr
 refine ⟨_, w.alloc (.cells ((List.replicate m zs).flatten).toArray e), ?_, w.heap.size, rfl, Nat.le_refl _, Blk.new w e _, Chg.alloc _⟩
 simp only [execOp, ho, ha.ev hx, ha.ev hy, Sem.run_bind]
 rw [hr]; rfl
theorem WL.storeC {ops : Array Oper} {rest : List Oper} {t : TypeId} {x y : Operand} {pos : String} {aft : Array Edge} {v : Value} {cs : List Value} {b i : Nat} {A : Addr}
  (hx : ev fr x = some (.pointer (some A))) (hA : A = (⟨b, 0, none⟩ : Addr).add (i * 1)) (hy : ev fr y = some v) (hv : v.cells = #[v]) (h1 : v.oneCell' = true) (hS : (P.info? t).map (·.size) = some 1) (hB : Blk w b e cs) (hi : i < cs.length)
  (h : ∀ w', Chg (· = b) w w' → Blk w' b e (cs.set i v) → WL P ops n Φ rest fr w') : WL P ops n Φ (⟨none, .store t x y, ty, pos, aft, none⟩ :: rest) fr w := by
 have e1 : cs = cs.take i ++ [cs[i]] ++ cs.drop (i + 1) := by
  conv => lhs; rw [← List.take_append_drop i cs, List.drop_eq_getElem_cons hi]
  simp
 have e2 : cs.set i v = cs.take i ++ [v] ++ cs.drop (i + 1) := by
  rw [List.set_eq_take_append_cons_drop, if_pos hi]; simp
 refine WL.store (g := b) (pre := cs.take i) (old := [cs[i]]) (post := cs.drop (i + 1)) (new := [v]) hx ?_ hy hv hS (e1 ▸ hB) rfl (one1 h1) fun w' hc hB' => ?_
 ·
  rw [hA, Nat.mul_one, add_zero', List.length_take, Nat.min_eq_left om_]
 ·
  exact h w' hc (e2 ▸ hB')
theorem flat_split {α : Type} {enc : α → List Value} {xs : List α} {i : Nat} {y : α} (x : α) (h : xs[i]? = some y) :
  (xs.map enc).flatten = ((xs.take i).map enc).flatten ++ enc y ++ ((xs.drop (i + 1)).map enc).flatten ∧ ((xs.set i x).map enc).flatten = ((xs.take i).map enc).flatten ++ enc x ++ ((xs.drop (i + 1)).map enc).flatten := by
 obtain ⟨hlt, hc⟩ := List.getElem?_eq_some_iff.1 h
 have e1 : xs = xs.take i ++ [y] ++ xs.drop (i + 1) := by
  conv => lhs; rw [← List.take_append_drop i xs, List.drop_eq_getElem_cons hlt, hc]
  simp
 have e2 : xs.set i x = xs.take i ++ [x] ++ xs.drop (i + 1) := by
  rw [List.set_eq_take_append_cons_drop, if_pos hlt]; simp
 constructor
 ·
  conv => lhs; rw [e1]
  simp
 ·
  rw [e2]; simp
end
end Go.Fw
/- The document's trees in memory. No condition. -/
namespace Go.Fw
open Go.Fu
section
variable {w : World} {a : Addr} {x : El} {lv rv : Value} (h : Mem w a (nodeC x lv rv))
include h
end
section
variable {w : World} {a : Addr} {u v : Value} (h : Mem w a [u, v])
include h
end
structure Rn where
 el : El
 lv : Value
 rv : Value
def Rn.sv (x : Rn) (s : Bool) : Value := cond s x.lv x.rv
end Go.Fw
namespace Go.Proofs.YtmehkigmnpjcjaaDoor
open Go.RowKit Go.Fw Go.Fu
abbrev TD8 : TypeId := 36
section
variable {w w' : World} {g : Nat} {ad : List Dig} {rs : List Rn} {av ev_ : Value} {S : Nat → Prop}
end
end Go.Proofs.YtmehkigmnpjcjaaDoor
/- The document's trees: Add, walked. No condition. -/
namespace Go.Fw
open Go.Fu Go.Pl
theorem RS.storeO {P : Program} {n : NN} {Φ : Exit → Fr → World → Prop} {fr : Fr} {w : World} {ops : Array Oper} {S : World → Prop} {fuel : Nat} {listed : Array Bool} {ty : TypeId} {i : Nat} {t e : TypeId} {x y : Operand} {pos : String} {aft : Array Edge} {v : Value} {g k m c : Nat} {pre old post new : List Value} {A : Addr}
  (hi : ops[i]? = some ⟨none, .store t x y, ty, pos, aft, none⟩)
  (hx : ev fr x = some (.pointer (some A))) (hA : A = ⟨g, pre.length, none⟩) (hy : ev fr y = some v) (hv : v.cells = new.toArray) (hS : (P.info? t).map (·.size) = some new.length)
  (hown : Own w e k (.slice (some ⟨g, 0, none⟩) m c) (pre ++ old ++ post)) (hl : new.length = old.length) (h1 : ∀ u ∈ new, u.oneCell' = true)
  (h : ∀ w', Chg (· = g) w w' → Own w' e k (.slice (some ⟨g, 0, none⟩) m c) (pre ++ new ++ post) → S w' ∧ RH P ops S n Φ fuel (listed.setIfInBounds i true) fr w') : RS P ops S n Φ fuel listed i fr w := fun a ha => by
 obtain ⟨w', hst, hc, hb'⟩ := hown.store (P := P) hl h1
 have hrun : (execOp a.eval ⟨none, .store t x y, ty, pos, aft, none⟩).run P w = .ok .skip w' := by
  simp [execOp, ha.ev hx, ha.ev hy, Instr.storeAt, Instr.sureAddr, storeVar, fw_sizeOf hS, hv, hA, hst]
 obtain ⟨h1, h2⟩ := h w' hc hb'
 unfold wpOp
 rw [hi]
 simp only [Region.wanted, if_true]
 refine .inl ?_
 unfold Oper.wp
 rw [hrun]
 exact ⟨h1, h2 _ ha⟩
theorem Own.blk {w : World} {e : TypeId} {k m c : Nat} {A : Option Addr} {xs : List Value} (h : Own w e k (.slice A m c) xs) (hx : xs ≠ []) : ∃ g, A = some ⟨g, 0, none⟩ := by
 rcases h with ⟨_, h⟩ | ⟨g, _, _, _, _, h, _⟩
 ·
  exact absurd h hx
 ·
  injection h with h
  exact ⟨g, h⟩
noncomputable def Rn.more (z : Rn) (e : List El) (s : Bool) (r : RefD) (v : Value) : Rn := ⟨z.el.more e s r, cond s v z.lv, cond s z.rv v⟩
def Rn.one (r : RefD) (b : UInt8) : Rn := ⟨⟨r, b, false, [], []⟩, .slice none 0 0, .slice none 0 0⟩
end Go.Fw
namespace Go.Proofs.YtmehkigmnpjcjaaDoor
open Go.RowKit Go.Fw Go.Fu Go.Pl
section
variable {w w' : World} {g : Nat} {ad : List Dig} {rs : List Rn} {av ev_ : Value} {S : Nat → Prop}
end
section
variable {w w0 w1 w' : World} {g : Nat} {ad : List Dig} {rs rs2 : List Rn} {av ev_ av2 ev2 ev3 : Value} {id : Dig} {ops : List OpD} {g4 k a : Nat} {z : Rn} {o : OpD}
end
end Go.Proofs.YtmehkigmnpjcjaaDoor
/- What must come. Plain. -/
namespace Go.Fu
open Go.Fw Go.Pl
def D1 : Dig := ⟨1 :: List.replicate 31 0, rfl⟩
def aliveOps : List OpD := [⟨1, false, RefD.zero, 97⟩, ⟨1, false, ⟨true, Dig.zero, 1⟩, 98⟩]
theorem alive_e : wrongC Tr.new D1 aliveOps = 0 := by decide
theorem alive_t : textE (addT Tr.new D1 aliveOps).e = [97, 98] := by decide
end Go.Fu
/- The law's functions: commits, alive, Grown, place, walked. No condition. -/
namespace Go.Fw
open Go.Fu Go.Pl
structure CmV where
 id : Dig
 ops : List OpD
 A : Option Addr
 c : Nat
abbrev CmV.pv (x : CmV) : Value := .slice x.A x.ops.length x.c
def cmC (x : CmV) : List Value := digC x.id ++ [x.pv]
def CmV.zero : CmV := ⟨Dig.zero, [], none, 0⟩
section
variable {w : World} {a : Addr} {x : CmV}
end
structure Cms (w : World) (u : Value) (l : List CmV) : Prop where
 sl : Sl w cmC 33 u l
 ops : ∀ x ∈ l, Sl w opC 37 x.pv x.ops
 fit : ∀ x ∈ l, x.ops.length * 72 ≤ 140737488355328
 few : l.length < 4398046511104
theorem Cms.ext {w w' : World} {u : Value} {l : List CmV} (h : Cms w u l) (hc : Ext w w') : Cms w' u l := ⟨h.sl.ext hc, fun x hx => (h.ops x hx).ext hc, h.fit, h.few⟩
theorem Sl.own_lt {α : Type} {w : World} {enc : α → List Value} {k : Nat} {v : Value} {xs : List α} (h : Sl w enc k v xs) (he : ∀ x, enc x ≠ []) (hx : xs ≠ []) : ∀ b, v.ownBlock = some b → b < w.heap.size := by
 obtain ⟨A, m, c, rfl, _, _, _, hg⟩ := h
 cases xs with
 | nil => exact absurd rfl hx
 | cons y r =>
  obtain ⟨a, rfl, hm⟩ := hg 0 y rfl
  intro b hb
  have h1 := hm.lt (he y)
  simp [Value.ownBlock] at hb
  have h2 : (a.add (0 * k)).block = a.block := by unfold Addr.add; split <;> rfl
  rw [h2] at h1
  omega
theorem run_bsK2 {P : Program} {t e : TypeId} {ie : TypeInfo} {z : Value} {a b : Value} {xs ys : List Value} (hu : P.underlying t = some (.slice e)) (hi : P.info? e = some ie) (hz : ie.zero = some z) (h0 : 0 < ie.size) (hsm : ie.size * 2 ≤ 16777216) (ha : a.cells = xs.toArray) (hb : b.cells = ys.toArray) (hla : xs.length = ie.size) (hlb : ys.length = ie.size) (w : World) :
  (Instr.buildSlice t 2 [(0, a), (1, b)].toArray).run P w = .ok (.slice (some ⟨w.heap.size, 0, none⟩) 2 2) (w.alloc (.cells (xs ++ ys).toArray e)) := by
 refine run_buildSlice w t e 2 _ _ ie z hu hi hz om_ om_ ?_
 have h := Go.Great.fill_whole (s := ie.size) h0 [a, b] ((Array.range (2 * ie.size)).map (z.cells[· % z.cells.size]!)) (by intro u hu; simp at hu; rcases hu with rfl | rfl <;> simp [*]) (by simp)
 simpa [ha, hb] using h
end Go.Fw
namespace Go.Proofs.YtmehkigmnpjcjaaDoor
open Go.RowKit Go.Fw Go.Fu Go.Pl
theorem bs2_op (x y : OpD) (w : World) : (Instr.buildSlice 27 2 [(0, opV x), (1, opV y)].toArray).run Tryd.prog w = .ok (.slice (some ⟨w.heap.size, 0, none⟩) 2 2) (w.alloc (.cells (opC x ++ opC y).toArray 62)) := by
 obtain ⟨i, z, hi, hz, hk, _⟩ := ai_op
 exact run_bsK2 Tryd.underlying27 hi hz om_ om_ rfl rfl (by rw [opC_length, hk]) (by rw [opC_length, hk]) w
theorem build_D1 (w : World) : (Instr.build TD8 [(0, Value.int .u8 1)].toArray).run Tryd.prog w = .ok (.agg (digC D1).toArray) w := run_build w _ _ _ kr_
theorem build_opA (w : World) : (Instr.build 62 [(0, Value.int .i64 1), (3, Value.int .u8 97)].toArray).run Tryd.prog w = .ok (.agg (opC ⟨1, false, RefD.zero, 97⟩).toArray) w := run_build w _ _ _ kr_
theorem build_refO (w : World) : (Instr.build 60 [(0, Value.bool true), (2, Value.int .i64 1)].toArray).run Tryd.prog w = .ok (.agg (refC ⟨true, Dig.zero, 1⟩).toArray) w := run_build w _ _ _ kr_
theorem build_opB (w : World) : (Instr.build 62 [(0, Value.int .i64 1), (3, Value.int .u8 98), (2, .agg (refC ⟨true, Dig.zero, 1⟩).toArray)].toArray).run Tryd.prog w = .ok (.agg (opC ⟨1, false, ⟨true, Dig.zero, 1⟩, 98⟩).toArray) w := run_build w _ _ _ kr_
theorem Blk.own {w : World} {g k m : Nat} {t : TypeId} {cs : List Value} (h : Blk w g t cs) (hl : cs.length = m * k) (hm : m ≤ maxLen) : Own w t k (.slice (some ⟨g, 0, none⟩) m m) cs := .inr ⟨g, m, m, [], (0, 0), rfl, (by have h9 : w.heap[g]? = _ := h; simpa using h9), by simp [hl], by omega, hm, by simp [hl], fun o _ => by simp⟩
theorem Fp.ofNew {g rb ra gn q : Nat} (h : Fp g rb ra (newN gn) q) : q = g ∨ q = rb ∨ q = ra ∨ q = gn := by
 rcases h with h | h | h | ⟨x, hx, h⟩
 ·
  exact .inl h
 ·
  exact .inr (.inl h)
 ·
  exact .inr (.inr (.inl h))
 ·
  simp [newN] at hx
  subst hx
  rcases h with h | ⟨s, h⟩
  ·
   exact .inr (.inr (.inr h))
  ·
   cases s <;> simp [Nn.sv, Value.ownBlock] at h
theorem opC_ne (x : OpD) : opC x ≠ [] := fun h => by have := opC_length x; rw [h] at this; cases this
end Go.Proofs.YtmehkigmnpjcjaaDoor
