/- Parts of a proof: what its last text leans on. No condition. -/
import Derived.Test.YtjbeooimhoilmaaGreatDoorK03
import Derived.Test.YtjbeooimhoilmaaGreatDoorK04
import Derived.Test.YtjbeooimhoilmaaGreatDoorK05
import Derived.Test.YtjbeooimhoilmaaGreatDoorK11
import Derived.Test.YtjbeooimhoilmaaGreatDoorK14
import Derived.Test.YtjbeooimhoilmaaGreatDoorK15
import Derived.Test.YtjbeooimhoilmaaGreatDoorK17
import Derived.Test.YtjbeooimhoilmaaGreatDoorK20
import Derived.Test.YtjbeooimhoilmaaGreatDoorK21
set_option linter.unusedSimpArgs false
set_option linter.unusedVariables false
/- Fugue's tree: the walk, the list of what is seen, walked. No condition. -/
namespace Go.Proofs.YtjbeooimhoilmaaGreatDoor
open Go.RowKit Go.Fw Go.Fu Go.Pl
abbrev TSP : TypeId := 94
abbrev TFn : TypeId := 127
def seenG (ns : List Nn) (l : List Nat) : List Nat := (l.filter fun i => !goneAt (Fw.els ns) i).map (gOf ns)
theorem seenG_app {ns : List Nn} {a b : List Nat} : seenG ns (a ++ b) = seenG ns a ++ seenG ns b := by simp [seenG]
structure WkAt (w0 w : World) (gf gt gb : Nat) (v : Value) (acc : List Nat) : Prop where
 ext : Ext w0 w
 from_ : Blk w gf TFn [.func (.func 82) #[] #[.pointer (some ⟨gf, 0, none⟩), .pointer (some ⟨gt, 0, none⟩)]]
 tell : Blk w gt TFn [.func (.func 59) #[] #[.pointer (some ⟨gb, 0, none⟩)]]
 box : Blk w gb TSP [v]
 own : Own w TP 1 v (ptrL acc)
 new : ∀ k, v.ownBlock = some k → w0.heap.size ≤ k
 low : w0.heap.size ≤ gf ∧ w0.heap.size ≤ gt ∧ w0.heap.size ≤ gb
section
variable {w0 w w' : World} {gf gt gb : Nat} {v : Value} {acc : List Nat}
theorem WkAt.then (h : WkAt w0 w gf gt gb v acc) (hx : Ext w w') : WkAt w0 w' gf gt gb v acc := ⟨h.ext.thenExt hx, h.from_.ext hx, h.tell.ext hx, h.box.ext hx, h.own.ext hx, h.new, h.low⟩
theorem WkAt.ne (h : WkAt w0 w gf gt gb v acc) : (∀ k, v.ownBlock = some k → k ≠ gf ∧ k ≠ gt ∧ k ≠ gb) ∧ gb ≠ gf ∧ gb ≠ gt := by
 have kd : ∀ {k : Nat} {c1 c2 : Array Value} {t1 t2 : TypeId} {f1 f2 : Nat × Nat}, w.heap[k]? = some (.cells c1 t1 f1) → w.heap[k]? = some (.cells c2 t2 f2) → t1 = t2 := fun h1 h2 => by
  rw [h1] at h2; injection h2 with h2; injection h2
 refine ⟨fun k hk => ⟨?_, ?_, ?_⟩, ?_, ?_⟩
 ·
  rintro rfl; obtain ⟨_, _, h1⟩ := h.own.kind hk; exact absurd (kd h1 h.from_) (by decide)
 ·
  rintro rfl; obtain ⟨_, _, h1⟩ := h.own.kind hk; exact absurd (kd h1 h.tell) (by decide)
 ·
  rintro rfl; obtain ⟨_, _, h1⟩ := h.own.kind hk; exact absurd (kd h1 h.box) (by decide)
 ·
  rintro rfl; exact absurd (kd h.box h.from_) (by decide)
 ·
  rintro rfl; exact absurd (kd h.box h.tell) (by decide)
end
theorem seenG_len {ns : List Nn} {l : List Nat} : (seenG ns l).length ≤ l.length := by rw [seenG, List.length_map]; exact List.length_filter_le _ _
theorem flat_takeS {l : List Nat} {f : Nat → List Nat} {k c : Nat} (h : l[k]? = some c) : (l.take (k + 1)).flatMap f = (l.take k).flatMap f ++ f c := by
 rw [List.take_add_one, h]; simp
theorem flat_take_le {l : List Nat} {f : Nat → List Nat} {k c : Nat} (h : l[k]? = some c) : ((l.take k).flatMap f).length + (f c).length ≤ (l.flatMap f).length := by
 have h1 := flat_takeS (f := f) h
 have h2 : l.flatMap f = (l.take (k + 1)).flatMap f ++ (l.drop (k + 1)).flatMap f := by rw [← List.flatMap_append, List.take_append_drop]
 rw [h2, h1]; simp only [List.length_append]; omega
theorem ptr_map {w : World} {l : List Nat} {ns : List Nn} {A : Option Addr} {m c : Nat} (h : Own w TP 1 (.slice A m c) (ptrL (l.map (gOf ns)))) : l.length = m ∧ ∀ i q, l[i]? = some q → ∃ a, A = some a ∧ Mem w (a.add (i * 1)) (pC (gOf ns q)) := by
 have h1 := (h.mem A m c rfl).2.2.1
 rw [ptrL_length, List.length_map, Nat.mul_one] at h1
 exact ⟨h1, fun i q hq => (h.sl pC_length (by decide)).get (by rw [List.getElem?_map, hq]; rfl)⟩
theorem flist1_any (gf gt gb : Nat) (v : Value) (acc : List Nat) (x : El) (lv rv : Value) (gx : Nat) (w0 w : World) (hz : Blk w gx TN (nodeC x lv rv)) (hW : WkAt w0 w gf gt gb v acc) (hn : acc.length ≤ 1000000) : Calls Tryz.prog 59 #[.pointer (some ⟨gx, 0, none⟩), .pointer (some ⟨gb, 0, none⟩)] w (Ret fun r w' => r = .bool true ∧ ∃ u, WkAt w0 w' gf gt gb u (acc ++ if x.gone = true then [] else [gx])) := by
 refine calls_of_CW 13 [3] [(0, .pointer (some ⟨gx, 0, none⟩)), (1, .pointer (some ⟨gb, 0, none⟩))] Tryz.func59 rfl rfl rfl (by simp) args2 ?_
 have hE : Ext w w := Chg.refl
 refine CW.sr fun K1 hK1 => ?_
 refine WL.a rfl ?_
 refine WL.nil (hK1 _ _ ?_); try clear hK1 K1
 refine CW.seq_to (X := Unit) (fun _ => [(0, .pointer (some ⟨gx, 0, none⟩)), (1, .pointer (some ⟨gb, 0, none⟩))]) (fun _ wj => ∃ u, WkAt w0 wj gf gt gb u (acc ++ if x.gone = true then [] else [gx])) ?_ ?_
 ·
  skip
  refine CW.sr fun K3 hK3 => ?_
  refine WL.m rfl ?_
  refine WL.v (Y.nilCheck rfl) ?_
  refine WL.v (Y.fieldAddr fo_fuguenode2 rfl) ?_
  refine WL.v (Y.load1 Tryz.underlying4 rfl hz.mem.fuguenode2 rfl) ?_
  refine WL.v (Y.not rfl) ?_
  refine WL.nil (hK3 _ _ ?_); try clear hK3 K3
  (first | refine CW.condD rfl ?_ ?_ | refine CW.condND rfl ?_ ?_ | refine CW.condN rfl ?_ ?_ | refine CW.cond rfl ?_ ?_) <;> intro ht4
  ·
   -- then
   refine CW.region ?_
   refine WL.v (Y.load1 Tryz.underlying94 rfl hW.box.mem.cell0 rfl) ?_
   refine WL.m rfl ?_
   refine WL.st (St.buildSlice rfl (bs1_ptr _)) (by decide) fun v11 w1 hR1 => ?_
   obtain ⟨g11, rfl, hg11, hB11, hx1⟩ := hR1
   have hW1 := hW.then hx1
   have hz1 := hx1.size
   refine WL.st (St.append (m := 1) (news := ptrL [gx]) UP UP ai_ptr rfl rfl hW1.own (Fw.Src.one hB11 rfl) one_ptrL (by rw [ptrL_length]; omega)) (by decide) fun v12 w2 hR2 => ?_
   obtain ⟨hO2, hc2, hf2⟩ := hR2
   obtain ⟨A2, n2, c2, rfl⟩ := hO2.lens
   have hne := hW1.ne
   have hz2 := hc2.size
   have hBb2 := hW1.box.chg hc2 (fun h => (hne.1 _ h).2.2 rfl)
   have hgbl := hW1.box.lt
   refine WL.store (g := gb) (pre := []) (old := [v]) (post := []) (new := [.slice A2 n2 c2]) rfl rfl rfl rfl (by kernel_rfl) (by simpa using hBb2) (by first | rfl | (simp [digC_length, opC_length]; done) | (simp only [digC_length, opC_length]; omega)) (one1 rfl) (fun w3 hc3 hB3_ => ?_)
   have hz3 := hc3.size
   have hW3 : WkAt w0 w3 gf gt gb (.slice A2 n2 c2) (acc ++ [gx]) := {
    ext := (hW1.ext.step hc2 (fun k h => hW1.new k h)).step hc3 (fun k h => by have h : k = gb := h; rw [h]; exact hW1.low.2.2)
    from_ := (hW1.from_.chg hc2 (fun h => (hne.1 _ h).1 rfl)).chg hc3 (fun h => hne.2.1 h.symm)
    tell := (hW1.tell.chg hc2 (fun h => (hne.1 _ h).2.1 rfl)).chg hc3 (fun h => hne.2.2 h.symm)
    box := by simpa using hB3_
    own := by
     rw [ptrL_app]
     refine hO2.chg hc3 (fun k hk h => ?_)
     have h : k = gb := h
     rcases hf2 with e | e
     ·
      rw [e] at hk; exact (hne.1 k hk).2.2 h
     ·
      have := e k hk; omega
    new := fun k hk => by
     rcases hf2 with e | e
     ·
      rw [e] at hk; exact hW1.new k hk
     ·
      have := e k hk; have := hW1.ext.size; omega
    low := hW1.low }
   refine WL.nil ?_
   exact ⟨(), Fr.ok, _, by rw [if_neg (by simp_all)]; exact hW3⟩
  refine CW.skip ?_
  exact ⟨(), Fr.ok, v, by rw [if_pos (by simp_all)]; simpa using hW⟩
 rintro u w4 hj4
 obtain ⟨u, hW⟩ := hj4
 refine CW.sr fun K5 hK5 => ?_
 refine WL.a rfl ?_
 refine WL.nil (hK5 _ _ ?_); try clear hK5 K5
 refine CW.ret ⟨_, rfl, ?_⟩
 exact ⟨rfl, u, hW⟩
set_option maxHeartbeats 1000000 in
theorem fwalk1_step (g rb ra : Nat) (ad : List Dig) (ns : List Nn) (gf gt gb i : Nat) (z : Nn) (wB w : World) (v : Value) (acc : List Nat) (hT : FtAt wB g rb ra ad ns) (hG : Fu.Good (Fw.els ns)) (hzi : ns[i]? = some z) (IH : ∀ c, c ∈ z.el.left ∨ c ∈ z.el.right → ∀ w v acc, WkAt wB w gf gt gb v acc → acc.length + (walkE (Fw.els ns) c).length ≤ 1000000 → Calls Tryz.prog 82 #[.pointer (some ⟨gOf ns c, 0, none⟩), .pointer (some ⟨gf, 0, none⟩), .pointer (some ⟨gt, 0, none⟩)] w (Ret fun r w' => r = .bool true ∧ ∃ u, WkAt wB w' gf gt gb u (acc ++ seenG ns (walkE (Fw.els ns) c)))) (hW : WkAt wB w gf gt gb v acc) (hb : acc.length + (walkE (Fw.els ns) i).length ≤ 1000000) : Calls Tryz.prog 82 #[.pointer (some ⟨gOf ns i, 0, none⟩), .pointer (some ⟨gf, 0, none⟩), .pointer (some ⟨gt, 0, none⟩)] w (Ret fun r w' => r = .bool true ∧ ∃ u, WkAt wB w' gf gt gb u (acc ++ seenG ns (walkE (Fw.els ns) i))) := by
 rw [gOf_at hzi]
 obtain ⟨xe, gx, lv, rv⟩ := z
 have hze : (Fw.els ns)[i]? = some xe := by rw [List.getElem?_map, hzi]; rfl
 have hkl : Own wB TP 1 lv (ptrL (xe.left.map (gOf ns))) := hT.kids i _ true hzi
 have hkr : Own wB TP 1 rv (ptrL (xe.right.map (gOf ns))) := hT.kids i _ false hzi
 have hz0 : Blk wB gx TN (nodeC xe lv rv) := hT.node i _ hzi
 have hwk := walkE_eq hG.down hze
 rw [hwk] at hb ⊢
 rw [List.length_append, List.length_cons] at hb
 dsimp only at IH ⊢
 obtain ⟨A, m, c, rfl⟩ := hkl.lens
 obtain ⟨A2, m2, c2, rfl⟩ := hkr.lens
 obtain ⟨hlm, hlg⟩ := ptr_map hkl
 obtain ⟨hrm, hrg⟩ := ptr_map hkr
 have hz := hz0.ext hW.ext
 have hcm := (hkl.mem A m c rfl).2.2.2.1
 have hcc := (hkl.mem A m c rfl).2.2.2.2
 have hcm2 := (hkr.mem A2 m2 c2 rfl).2.2.2.1
 have hcc2 := (hkr.mem A2 m2 c2 rfl).2.2.2.2
 unfold maxLen at hcc hcc2
 refine calls_of_CW 41 [4] [(0, .pointer (some ⟨gx, 0, none⟩)), (1, .pointer (some ⟨gf, 0, none⟩)), (2, .pointer (some ⟨gt, 0, none⟩))] Tryz.func82 rfl rfl rfl (by simp) args3 ?_
 have hE : Ext w w := Chg.refl
 refine CW.sr fun K1 hK1 => ?_
 refine WL.a rfl ?_
 refine WL.nil (hK1 _ _ ?_); try clear hK1 K1
 refine CW.seq fun K2 hK2 => ?_
 refine CW.sr fun K3 hK3 => ?_
 refine WL.m rfl ?_
 refine WL.v (Y.nilCheck rfl) ?_
 refine WL.v (Y.fieldAddr fo_fuguenode3 rfl) ?_
 refine WL.v (Y.load1 Tryz.underlying94 rfl hz.mem.fuguenode3 rfl) ?_
 refine WL.v (Y.len_slice Tryz.underlying94 rfl) ?_
 refine WL.m rfl ?_
 refine WL.nil (hK3 _ _ ?_); try clear hK3 K3
 refine CW.block ?_
 refine CW.loop (X := Nat × Value) (fun x => [(0, .pointer (some ⟨gx, 0, none⟩)), (1, .pointer (some ⟨gf, 0, none⟩)), (2, .pointer (some ⟨gt, 0, none⟩)), (12, .slice A m c), (13, .int .i64 (m : Int)), (14, .int .i64 (x.1 : Int))]) (fun x w0 => x.1 ≤ m ∧ WkAt wB w0 gf gt gb x.2 (acc ++ seenG ns ((xe.left.take x.1).flatMap (walkE (Fw.els ns))))) (fun x => m - x.1) (0, v) Fr.ok ⟨Nat.zero_le _, by simpa [seenG] using hW⟩ ?_
 intro x w1 hl1
 obtain ⟨k, v1⟩ := x
 dsimp only at hl1 ⊢
 obtain ⟨hkm, hW1⟩ := hl1
 refine CW.sr fun K4 hK4 => ?_
 refine WL.v (Y.lss rfl rfl) ?_
 refine WL.nil (hK4 _ _ ?_); try clear hK4 K4
 refine CW.seq fun K5 hK5 => ?_
 (first | refine CW.condD rfl ?_ ?_ | refine CW.condND rfl ?_ ?_ | refine CW.condN rfl ?_ ?_ | refine CW.cond rfl ?_ ?_) <;> intro ht6
 ·
  -- then
  refine CW.skip ?_
  refine hK5 _ _ ?_; try clear hK5 K5
  refine CW.seq fun K7 hK7 => ?_
  refine CW.block ?_
  refine CW.seq fun K8 hK8 => ?_
  obtain ⟨q, hq⟩ : ∃ q, xe.left[k]? = some q := ⟨_, List.getElem?_eq_getElem (by omega)⟩
  obtain ⟨a, rfl, hma⟩ := hlg k q hq
  have hfl := flat_take_le (f := walkE (Fw.els ns)) hq
  have hsl := seenG_len (ns := ns) (l := (xe.left.take k).flatMap (walkE (Fw.els ns)))
  refine CW.region ?_
  refine WL.v (Y.indexAddrN Tryz.underlying94 rfl rfl sz0_fuguenode (by omega)) ?_
  refine WL.v (Y.load1 Tryz.underlying96 rfl ((hma.ext hW1.ext).cell0) rfl) ?_
  refine WL.a rfl ?_
  refine WL.nil (hK8 _ _ ?_); try clear hK8 K8
  refine CW.sr fun K9 hK9 => ?_
  refine WL.v (Y.load1 Tryz.underlying127 rfl hW1.from_.mem.cell0 rfl) ?_
  refine WL.m rfl ?_
  refine WL.callV rfl Tryz.func82 rfl rfl rfl (IH q (.inl (List.mem_of_getElem? hq)) _ _ _ hW1 (by rw [List.length_append]; omega)) (by simp) ?_; rintro v20 w2 hR2
  obtain ⟨rfl, u2, hW2⟩ := hR2
  refine WL.v (Y.not rfl) ?_
  refine WL.nil (hK9 _ _ ?_); try clear hK9 K9
  (first | refine CW.condD rfl ?_ ?_ | refine CW.condND rfl ?_ ?_ | refine CW.condN rfl ?_ ?_ | refine CW.cond rfl ?_ ?_) <;> intro ht10
  ·
   -- then
   refine CW.sr fun K11 hK11 => ?_
   refine WL.a rfl ?_
   refine WL.nil (hK11 _ _ ?_); try clear hK11 K11
   refine CW.ret ⟨_, rfl, ?_⟩
   exact absurd (show true = false by assumption) (by decide)
  refine CW.skip ?_
  refine hK7 _ _ ?_; try clear hK7 K7
  refine CW.region ?_
  refine WL.v (Y.add rfl rfl ⟨by omega, by omega⟩) ?_
  refine WL.m rfl ?_
  refine WL.nil ?_
  exact ⟨(k + 1, u2), (by show m - (k + 1) < m - k; omega), Fr.ok, (by show k + 1 ≤ m; omega), by rw [flat_takeS hq, seenG_app, ← List.append_assoc]; exact hW2⟩
 refine CW.exit ?_
 refine hK2 _ _ ?_; try clear hK2 K2
 refine CW.seq fun K12 hK12 => ?_
 refine CW.seq fun K13 hK13 => ?_
 have hke : xe.left.take k = xe.left := List.take_of_length_le (by omega)
 rw [hke] at hW1
 have hsl := seenG_len (ns := ns) (l := xe.left.flatMap (walkE (Fw.els ns)))
 have hz := hz0.ext hW1.ext
 refine CW.region ?_
 refine WL.v (Y.load1 Tryz.underlying127 rfl hW1.tell.mem.cell0 rfl) ?_
 refine WL.m rfl ?_
 refine WL.callV rfl Tryz.func59 rfl rfl rfl (flist1_any gf gt gb _ _ xe _ _ gx wB _ hz hW1 (by rw [List.length_append]; omega)) (by simp) ?_; rintro v25 w3 hR3
 obtain ⟨rfl, u3, hW3⟩ := hR3
 refine WL.v (Y.not rfl) ?_
 refine WL.nil (hK13 _ _ ?_); try clear hK13 K13
 (first | refine CW.condD rfl ?_ ?_ | refine CW.condND rfl ?_ ?_ | refine CW.condN rfl ?_ ?_ | refine CW.cond rfl ?_ ?_) <;> intro ht14
 ·
  -- then
  refine CW.sr fun K15 hK15 => ?_
  refine WL.a rfl ?_
  refine WL.nil (hK15 _ _ ?_); try clear hK15 K15
  refine CW.ret ⟨_, rfl, ?_⟩
  exact absurd (show true = false by assumption) (by decide)
 refine CW.skip ?_
 refine hK12 _ _ ?_; try clear hK12 K12
 refine CW.seq fun K16 hK16 => ?_
 refine CW.seq fun K17 hK17 => ?_
 have hz := hz0.ext hW3.ext
 refine CW.region ?_
 refine WL.m rfl ?_
 refine WL.v (Y.nilCheck rfl) ?_
 refine WL.v (Y.fieldAddr fo_fuguenode4 rfl) ?_
 refine WL.v (Y.load1 Tryz.underlying94 rfl hz.mem.fuguenode4 rfl) ?_
 refine WL.v (Y.len_slice Tryz.underlying94 rfl) ?_
 refine WL.m rfl ?_
 refine WL.nil (hK17 _ _ ?_); try clear hK17 K17
 refine CW.block ?_
 refine CW.loop (X := Nat × Value) (fun x => [(0, .pointer (some ⟨gx, 0, none⟩)), (1, .pointer (some ⟨gf, 0, none⟩)), (2, .pointer (some ⟨gt, 0, none⟩)), (30, .slice A2 m2 c2), (31, .int .i64 (m2 : Int)), (32, .int .i64 (x.1 : Int))]) (fun x w0 => x.1 ≤ m2 ∧ WkAt wB w0 gf gt gb x.2 (acc ++ seenG ns (xe.left.flatMap (walkE (Fw.els ns))) ++ (if xe.gone = true then [] else [gx]) ++ seenG ns ((xe.right.take x.1).flatMap (walkE (Fw.els ns))))) (fun x => m2 - x.1) (0, u3) Fr.ok ⟨Nat.zero_le _, by simpa [seenG] using hW3⟩ ?_
 intro x w4 hl4
 obtain ⟨k, v1⟩ := x
 dsimp only at hl4 ⊢
 obtain ⟨hkm, hW4⟩ := hl4
 refine CW.sr fun K18 hK18 => ?_
 refine WL.v (Y.lss rfl rfl) ?_
 refine WL.nil (hK18 _ _ ?_); try clear hK18 K18
 refine CW.seq fun K19 hK19 => ?_
 (first | refine CW.condD rfl ?_ ?_ | refine CW.condND rfl ?_ ?_ | refine CW.condN rfl ?_ ?_ | refine CW.cond rfl ?_ ?_) <;> intro ht20
 ·
  -- then
  refine CW.skip ?_
  refine hK19 _ _ ?_; try clear hK19 K19
  refine CW.seq fun K21 hK21 => ?_
  refine CW.block ?_
  refine CW.seq fun K22 hK22 => ?_
  obtain ⟨q, hq⟩ : ∃ q, xe.right[k]? = some q := ⟨_, List.getElem?_eq_getElem (by omega)⟩
  obtain ⟨a, rfl, hma⟩ := hrg k q hq
  have hfl := flat_take_le (f := walkE (Fw.els ns)) hq
  have hsr := seenG_len (ns := ns) (l := (xe.right.take k).flatMap (walkE (Fw.els ns)))
  refine CW.region ?_
  refine WL.v (Y.indexAddrN Tryz.underlying94 rfl rfl sz0_fuguenode (by omega)) ?_
  refine WL.v (Y.load1 Tryz.underlying96 rfl ((hma.ext hW4.ext).cell0) rfl) ?_
  refine WL.a rfl ?_
  refine WL.nil (hK22 _ _ ?_); try clear hK22 K22
  refine CW.sr fun K23 hK23 => ?_
  refine WL.v (Y.load1 Tryz.underlying127 rfl hW4.from_.mem.cell0 rfl) ?_
  refine WL.m rfl ?_
  refine WL.callV rfl Tryz.func82 rfl rfl rfl (IH q (.inr (List.mem_of_getElem? hq)) _ _ _ hW4 (by rw [List.length_append, List.length_append, List.length_append]; have : (if xe.gone = true then ([] : List Nat) else [gx]).length ≤ 1 := (by split <;> simp); omega)) (by simp) ?_; rintro v38 w5 hR5
  obtain ⟨rfl, u5, hW5⟩ := hR5
  refine WL.v (Y.not rfl) ?_
  refine WL.nil (hK23 _ _ ?_); try clear hK23 K23
  (first | refine CW.condD rfl ?_ ?_ | refine CW.condND rfl ?_ ?_ | refine CW.condN rfl ?_ ?_ | refine CW.cond rfl ?_ ?_) <;> intro ht24
  ·
   -- then
   refine CW.sr fun K25 hK25 => ?_
   refine WL.a rfl ?_
   refine WL.nil (hK25 _ _ ?_); try clear hK25 K25
   refine CW.ret ⟨_, rfl, ?_⟩
   exact absurd (show true = false by assumption) (by decide)
  refine CW.skip ?_
  refine hK21 _ _ ?_; try clear hK21 K21
  refine CW.region ?_
  refine WL.v (Y.add rfl rfl ⟨by omega, by omega⟩) ?_
  refine WL.m rfl ?_
  refine WL.nil ?_
  exact ⟨(k + 1, u5), (by show m2 - (k + 1) < m2 - k; omega), Fr.ok, (by show k + 1 ≤ m2; omega), by rw [flat_takeS hq, seenG_app, ← List.append_assoc]; exact hW5⟩
 refine CW.exit ?_
 refine hK16 _ _ ?_; try clear hK16 K16
 refine CW.sr fun K26 hK26 => ?_
 refine WL.a rfl ?_
 refine WL.nil (hK26 _ _ ?_); try clear hK26 K26
 refine CW.ret ⟨_, rfl, ?_⟩
 have hke : xe.right.take k = xe.right := List.take_of_length_le (by omega)
 rw [hke] at hW4
 have hone : seenG ns [i] = if xe.gone = true then [] else [gx] := by
  have h1 := gOf_at hzi
  cases hg : xe.gone <;> simp [seenG, goneAt_at hze, hg, h1]
 refine ⟨rfl, v1, ?_⟩
 rw [List.append_cons, seenG_app, seenG_app, hone, ← List.append_assoc, ← List.append_assoc]
 exact hW4
theorem fwalk1_any (g rb ra : Nat) (ad : List Dig) (ns : List Nn) (gf gt gb : Nat) (wB : World) (hT : FtAt wB g rb ra ad ns) (hG : Fu.Good (Fw.els ns)) : ∀ i, i < (Fw.els ns).length → ∀ w v acc, WkAt wB w gf gt gb v acc → acc.length + (walkE (Fw.els ns) i).length ≤ 1000000 → Calls Tryz.prog 82 #[.pointer (some ⟨gOf ns i, 0, none⟩), .pointer (some ⟨gf, 0, none⟩), .pointer (some ⟨gt, 0, none⟩)] w (Ret fun r w' => r = .bool true ∧ ∃ u, WkAt wB w' gf gt gb u (acc ++ seenG ns (walkE (Fw.els ns) i))) :=
 down_ind hG.down fun i x hx ih w v acc hW hb => by
  rw [List.getElem?_map] at hx
  obtain ⟨z, hz, rfl⟩ := Option.map_eq_some_iff.1 hx
  exact fwalk1_step g rb ra ad ns gf gt gb i z wB w v acc hT hG hz (fun c hc w v acc hW hb => ih c hc (hG.down i z.el (by rw [List.getElem?_map, hz]; rfl) c hc).2 w v acc hW hb) hW hb
theorem info_fnN : ∃ i : TypeInfo, Tryz.prog.info? TFn = some i ∧ i.zero = some Value.nilFunc ∧ i.size = 1 := by
 have h : (Tryz.prog.info? TFn).map (fun i => (i.zero, i.size)) = some (some Value.nilFunc, 1) := by kernel_rfl
 obtain ⟨i, hi, h⟩ := Option.map_eq_some_iff.1 h
 injection h with h1 h2
 exact ⟨i, hi, h1, h2⟩
set_option maxRecDepth 100000 in
theorem fwalk_any (g rb ra : Nat) (ad : List Dig) (ns : List Nn) (gb : Nat) (wB w : World) (hT : FtAt wB g rb ra ad ns) (hG : Fu.Good (Fw.els ns)) (hn : ns.length ≤ 400001) (hx : Ext wB w) (hgb : wB.heap.size ≤ gb) (hB : Blk w gb TSP [.slice none 0 0]) : Calls Tryz.prog 58 #[.pointer (some ⟨g, 0, none⟩), .func (.func 59) #[] #[.pointer (some ⟨gb, 0, none⟩)]] w (Ret fun r w' => ∃ u, Blk w' gb TSP [u] ∧ Own w' TP 1 u (ptrL (seenG ns (orderE (Fw.els ns)))) ∧ (∀ k, u.ownBlock = some k → wB.heap.size ≤ k) ∧ Ext wB w') := by
 have hzx := hx.size
 obtain ⟨ifn, hif, hzf, hsf⟩ := info_fnN
 have hel : (Fw.els ns).length = ns.length := List.length_map _
 refine calls_of_CW 15 [] [(0, .pointer (some ⟨g, 0, none⟩)), (1, .func (.func 59) #[] #[.pointer (some ⟨gb, 0, none⟩)])] Tryz.func58 rfl rfl rfl (by simp) args2 ?_
 have hE : Ext w w := Chg.refl
 refine CW.sr fun K1 hK1 => ?_
 refine WL.box rfl rfl (by decide) fun g3 w1 hx1 hg3 hB3 => ?_
 have hlt3 := hB3.lt; have hz1 := hx1.size
 have hM3 := hB3.mem; have hz1 := hx1.size; have hE := hE.thenExt hx1
 refine WL.nil (hK1 _ _ ?_); try clear hK1 K1
 refine CW.seq fun K2 hK2 => ?_
 refine CW.sr fun K3 hK3 => ?_
 refine WL.m rfl ?_
 refine WL.call Tryz.func37 rfl rfl rfl (fmade_any g rb ra ad ns _ ((hT.ext hx).ext hE)) (by simp) ?_; rintro v w2 ⟨rfl, hx2⟩; have hz2 := hx2.size; have hE := hE.thenExt hx2; have hB3 := hB3.ext hx2
 refine WL.v (Y.not rfl) ?_
 refine WL.nil (hK3 _ _ ?_); try clear hK3 K3
 (first | refine CW.condD rfl ?_ ?_ | refine CW.condND rfl ?_ ?_ | refine CW.condN rfl ?_ ?_ | refine CW.cond rfl ?_ ?_) <;> intro ht4
 ·
  -- then
  refine CW.ret ⟨_, rfl, ?_⟩
  exact absurd (show true = false by assumption) (by decide)
 refine CW.skip ?_
 refine hK2 _ _ ?_; try clear hK2 K2
 refine CW.sr fun K5 hK5 => ?_
 refine WL.alloc (hif) (hzf) rfl (by decide) fun g4 w3 hx3 hg4 hB4 => ?_
 have hlt4 := hB4.lt; have hz3 := hx3.size
 have hM4 := hB4.mem; have hz3 := hx3.size; have hE := hE.thenExt hx3; have hB3 := hB3.ext hx3
 refine WL.nil (hK5 _ _ ?_); try clear hK5 K5
 refine CW.sr fun K6 hK6 => ?_
 refine WL.v (Y.makeFunc rfl) ?_
 refine WL.store (g := g4) (pre := []) (old := [Value.nilFunc]) (post := []) (new := [.func (.func 82) #[] #[.pointer (some ⟨g4, 0, none⟩), .pointer (some ⟨g3, 0, none⟩)]]) rfl rfl rfl rfl (by kernel_rfl) (by simpa using hB4) (by first | rfl | (simp [digC_length, opC_length]; done) | (simp only [digC_length, opC_length]; omega)) (one1 rfl) (fun w4 hc4 hB4_ => ?_)
 have hz4 := hc4.size; have hE := hE.step hc4 (fun k h => by omega); have hB3 := hB3.chg hc4 (fun h => by omega)
 have hB4 : Blk w4 g4 TFn [.func (.func 82) #[] #[.pointer (some ⟨g4, 0, none⟩), .pointer (some ⟨g3, 0, none⟩)]] := by simpa using hB4_
 have hWk : WkAt wB w4 g4 g3 gb (.slice none 0 0) [] := ⟨hx.thenExt hE, hB4, hB3, hB.ext hE, Own.nil, fun k hk => (by simp [Value.ownBlock] at hk), ⟨by omega, by omega, hgb⟩⟩
 refine WL.nil (hK6 _ _ ?_); try clear hK6 K6
 refine CW.head 5 (by kernel_rfl) (by kernel_rfl) fun w5 hx5 => ?_
 skip; have hz5 := hx5.size; have hE := hE.thenExt hx5; have hB3 := hB3.ext hx5; have hB4 := hB4.ext hx5
 refine HL.val (Y.load1 Tryz.underlying127 rfl hB4.mem.cell0 rfl) (by decide) ?_
 refine HL.val (Y.move rfl) (by decide) ?_
 refine HL.val (Y.nilCheck rfl) (by decide) ?_
 refine HL.val (Y.fieldAddr fo_fugueTree0 rfl) (by decide) ?_
 refine HL.val (Y.load1 Tryz.underlying96 rfl ((hT.ext hx).ext hE).blk.mem.fugueTree0 rfl) (by decide) ?_
 refine HL.nil ?_
 refine WL.callV rfl Tryz.func82 rfl rfl rfl (fwalk1_any g rb ra ad ns g4 g3 gb wB hT hG 0 hG.pos _ _ [] (hWk.then hx5) (by have h9 := hG.perm.length_eq; rw [List.length_range, hel] at h9; show 0 + (orderE (Fw.els ns)).length ≤ _; omega)) (by simp) ?_; rintro v14 w6 hR6
 obtain ⟨rfl, u, hWu⟩ := hR6
 refine WL.nil ?_
 refine ⟨_, rfl, ?_⟩
 exact ⟨u, hWu.box, by simpa using hWu.own, hWu.new, hWu.ext⟩
theorem flist_any (g rb ra : Nat) (ad : List Dig) (ns : List Nn) (w : World) (hT : FtAt w g rb ra ad ns) (hG : Fu.Good (Fw.els ns)) (hn : ns.length ≤ 400001) : Calls Tryz.prog 36 #[.pointer (some ⟨g, 0, none⟩)] w (Ret fun v w' => Own w' TP 1 v (ptrL ((seenE (Fw.els ns)).map (gOf ns))) ∧ (∀ k, v.ownBlock = some k → w.heap.size ≤ k) ∧ Ext w w') := by
 refine calls_of_CW 8 [2] [(0, .pointer (some ⟨g, 0, none⟩))] Tryz.func36 rfl rfl rfl (by simp) args1 ?_
 have hE : Ext w w := Chg.refl
 refine CW.sr fun K1 hK1 => ?_
 refine WL.a rfl ?_
 refine WL.nil (hK1 _ _ ?_); try clear hK1 K1
 refine CW.sr fun K2 hK2 => ?_
 refine WL.alloc1 (z := .slice none 0 0) (by kernel_rfl) rfl (by decide) fun g3 w1 hx1 hg3 hB3 => ?_
 have hlt3 := hB3.lt; have hz1 := hx1.size
 have hM3 := hB3.mem; have hz1 := hx1.size; have hE := hE.thenExt hx1
 refine WL.nil (hK2 _ _ ?_); try clear hK2 K2
 refine CW.sr fun K3 hK3 => ?_
 refine WL.m rfl ?_
 refine WL.v (Y.makeFunc rfl) ?_
 refine WL.call Tryz.func58 rfl rfl rfl (fwalk_any g rb ra ad ns g3 w _ hT hG hn hE (by omega) hB3) (by simp) ?_; rintro v6 w2 hR2
 obtain ⟨u, hBu, hOu, hnu, hxu⟩ := hR2
 have hB3 := hBu
 have hE := hxu
 refine WL.nil (hK3 _ _ ?_); try clear hK3 K3
 refine CW.sr fun K4 hK4 => ?_
 refine WL.v (Y.load1 Tryz.underlying94 rfl hB3.mem.cell0 rfl) ?_
 refine WL.a rfl ?_
 refine WL.nil (hK4 _ _ ?_); try clear hK4 K4
 refine CW.ret ⟨_, rfl, ?_⟩
 exact ⟨hOu, hnu, hxu⟩
end Go.Proofs.YtjbeooimhoilmaaGreatDoor
/- Fugue's tree: Text, Ref, Place, Gap, walked. No condition. -/
namespace Go.Proofs.YtjbeooimhoilmaaGreatDoor
open Go.RowKit Go.Fw Go.Fu Go.Pl
theorem ftext_any (g rb ra : Nat) (ad : List Dig) (ns : List Nn) (w : World) (hT : FtAt w g rb ra ad ns) (hG : Fu.Good (Fw.els ns)) (hn : ns.length ≤ 400001) : Calls Tryz.prog 19 #[.pointer (some ⟨g, 0, none⟩)] w (Ret fun v w' => v = .string (bs (textE (Fw.els ns))) ∧ Ext w w') := by
 have hlv : (seenE (Fw.els ns)).length = liveN ns := hG.seen_length
 have hel : (Fw.els ns).length = ns.length := List.length_map _
 have hsl : ∀ q, q ∈ seenE (Fw.els ns) → q < ns.length := fun q hq => by rw [← hel]; exact seen_lt hG.down hq
 obtain ⟨ir, hir, hzr, hsr⟩ := info_apiRef
 have hli : (seenE (Fw.els ns)).length ≤ 400001 := by
  have := List.countP_le_length (p := fun x : El => !x.gone) (l := Fw.els ns)
  rw [hlv]; rw [List.length_map] at this; exact Nat.le_trans this hn
 refine calls_of_CW 23 [2] [(0, .pointer (some ⟨g, 0, none⟩))] Tryz.func19 rfl rfl rfl (by simp) args1 ?_
 have hE : Ext w w := Chg.refl
 refine CW.sr fun K1 hK1 => ?_
 refine WL.a rfl ?_
 refine WL.nil (hK1 _ _ ?_); try clear hK1 K1
 refine CW.sr fun K2 hK2 => ?_
 refine WL.a rfl ?_
 refine WL.nil (hK2 _ _ ?_); try clear hK2 K2
 refine CW.seq fun K3 hK3 => ?_
 refine CW.sr fun K4 hK4 => ?_
 refine WL.m rfl ?_
 refine WL.call Tryz.func36 rfl rfl rfl (flist_any g rb ra ad ns _ hT hG hn) (by simp) ?_; rintro v7 w1 hR1
 obtain ⟨hO1, hf1, hx1⟩ := hR1
 obtain ⟨A, m, c, rfl⟩ := hO1.lens
 obtain ⟨hlm, hlg⟩ := ptr_map hO1
 have hcc := (hO1.mem A m c rfl).2.2.2
 unfold maxLen at hcc
 have hE := hE.thenExt hx1
 refine WL.v (Y.len_slice Tryz.underlying94 rfl) ?_
 refine WL.m rfl ?_
 refine WL.nil (hK4 _ _ ?_); try clear hK4 K4
 refine CW.block ?_
 refine CW.loop (X := Nat × Value) (fun x => [(0, .pointer (some ⟨g, 0, none⟩)), (3, x.2), (7, .slice A m c), (8, .int .i64 (m : Int)), (9, .int .i64 (x.1 : Int))]) (fun x w0 => x.1 ≤ m ∧ Own w0 5 1 x.2 (bytesC (((seenE (Fw.els ns)).take x.1).map (byteAt (Fw.els ns)))) ∧ Own w0 TP 1 (.slice A m c) (ptrL ((seenE (Fw.els ns)).map (gOf ns))) ∧ (∀ k, x.2.ownBlock = some k → w.heap.size ≤ k) ∧ Ext w w0) (fun x => m - x.1) (0, .slice none 0 0) Fr.ok ⟨Nat.zero_le _, Own.nil, hO1, (fun k hk => by simp [Value.ownBlock] at hk), hE⟩ ?_
 intro x w2 hl2
 obtain ⟨k, bv⟩ := x
 dsimp only at hl2 ⊢
 obtain ⟨hkm, hOb, hOl, hfb, hE⟩ := hl2
 obtain ⟨hlm, hlg⟩ := ptr_map hOl
 refine CW.sr fun K5 hK5 => ?_
 refine WL.v (Y.lss rfl rfl) ?_
 refine WL.nil (hK5 _ _ ?_); try clear hK5 K5
 refine CW.seq fun K6 hK6 => ?_
 (first | refine CW.condD rfl ?_ ?_ | refine CW.condND rfl ?_ ?_ | refine CW.condN rfl ?_ ?_ | refine CW.cond rfl ?_ ?_) <;> intro ht7
 ·
  -- then
  refine CW.skip ?_
  refine hK6 _ _ ?_; try clear hK6 K6
  refine CW.seq fun K8 hK8 => ?_
  refine CW.block ?_
  refine CW.seq fun K9 hK9 => ?_
  obtain ⟨q, hq⟩ : ∃ q, (seenE (Fw.els ns))[k]? = some q := ⟨_, List.getElem?_eq_getElem (by omega)⟩
  obtain ⟨a, rfl, hma⟩ := hlg k q hq
  obtain ⟨z, hz⟩ : ∃ z, ns[q]? = some z := ⟨_, List.getElem?_eq_getElem (hsl q (List.mem_of_getElem? hq))⟩
  have hze : (Fw.els ns)[q]? = some z.el := by rw [List.getElem?_map, hz]; rfl
  have hzb := (hT.node q z hz).ext hE
  rw [gOf_at hz] at hma
  refine CW.region ?_
  refine WL.v (Y.indexAddrN Tryz.underlying94 rfl rfl sz0_fuguenode (by omega)) ?_
  refine WL.v (Y.load1 Tryz.underlying96 rfl hma.cell0 rfl) ?_
  refine WL.a rfl ?_
  refine WL.nil (hK9 _ _ ?_); try clear hK9 K9
  refine CW.region ?_
  refine WL.m rfl ?_
  refine WL.m rfl ?_
  refine WL.v (Y.nilCheck rfl) ?_
  refine WL.v (Y.fieldAddr fo_fuguenode1 rfl) ?_
  refine WL.v (Y.load1 Tryz.underlying5 rfl hzb.mem.fuguenode1 rfl) ?_
  refine WL.st (St.buildSlice rfl (bs1 _)) (by decide) fun v18 w3 hR3 => ?_
  obtain ⟨g18, rfl, hg18, hB18, hx3⟩ := hR3
  have hz3 := hx3.size
  refine WL.st (St.app (ys := [z.el.byte]) Tryz.underlying91 Tryz.underlying91 ai_u8 rfl rfl (hOb.ext hx3) (Blk.src1 hB18) (by rw [List.length_map, List.length_take]; omega)) (by decide) fun v19 w4 hR4 => ?_
  obtain ⟨hO4, hc4, hf4⟩ := hR4
  have hz4 := hc4.size
  have hE4 : Ext w w4 := (hE.thenExt hx3).step hc4 (fun k h => hfb k h)
  have hOl4 := (hOl.ext hx3).chg hc4 (fun k hk h => by
   obtain ⟨_, _, h1⟩ := (hOl.ext hx3).kind hk
   obtain ⟨_, _, h2⟩ := (hOb.ext hx3).kind h
   rw [h1] at h2; injection h2 with h2; injection h2 with _ h2; exact absurd h2 (by decide))
  refine WL.a rfl ?_
  refine WL.nil (hK8 _ _ ?_); try clear hK8 K8
  refine CW.region ?_
  refine WL.v (Y.add rfl rfl ⟨by omega, by omega⟩) ?_
  refine WL.m rfl ?_
  refine WL.nil ?_
  exact ⟨(k + 1, v19), (by show m - (k + 1) < m - k; omega), Fr.ok, (by show k + 1 ≤ m; omega), (by rw [List.take_add_one, hq]; simpa [byteAt_at hze] using hO4), hOl4, (fun q hq => by rcases hf4 with e | e; rw [e] at hq; exact hfb q hq; have := e q hq; have := hE.size; omega), hE4⟩
 refine CW.exit ?_
 refine hK3 _ _ ?_; try clear hK3 K3
 refine CW.seq fun K10 hK10 => ?_
 have hke : (seenE (Fw.els ns)).take k = seenE (Fw.els ns) := List.take_of_length_le (by omega)
 rw [hke] at hOb
 obtain ⟨Ab, mb, cb, rfl⟩ := hOb.lens
 obtain ⟨hm1, hm2, hm3, _⟩ := hOb.mem Ab mb cb rfl
 rw [bytesC_length, Nat.mul_one] at hm3
 refine CW.region ?_
 refine WL.m rfl ?_
 refine WL.v (Y.bytes_string Tryz.underlying91 Tryz.underlying5 Tryz.underlying9 rfl (l := (seenE (Fw.els ns)).map (byteAt (Fw.els ns))) hm3 hm1 hm2) ?_
 refine WL.a rfl ?_
 refine WL.nil (hK10 _ _ ?_); try clear hK10 K10
 refine CW.ret ⟨_, rfl, ?_⟩
 exact ⟨rfl, hE⟩
end Go.Proofs.YtjbeooimhoilmaaGreatDoor
/- Slices of ints, and of elements of several cells, of our own: made, read, written, cleared; method values. No condition. -/
namespace Go.Fw
open Go.RowKit
section
variable {P : Program} {n : NN} {Φ : Exit → Fr → World → Prop} {fr : Fr} {w : World} {ty : TypeId} {e : TypeId}
def intC (S : List Nat) : List Value := S.map fun (m : Nat) => Value.int .i64 (m : Int)
end
end Go.Fw
/- The document's trees in memory. No condition. -/
namespace Go.Fw
open Go.Fu
section
variable {w : World} {a : Addr} {x : El} {lv rv : Value} (h : Mem w a (nodeC x lv rv))
include h
end
section
variable {w : World} {a : Addr} {u v : Value} (h : Mem w a [u, v])
include h
end
structure Rn where
 el : El
 lv : Value
 rv : Value
def Rn.sv (x : Rn) (s : Bool) : Value := cond s x.lv x.rv
def rC (x : Rn) : List Value := nodeC x.el x.lv x.rv
theorem rC_length (x : Rn) : (rC x).length = 38 := nodeC_length _ _ _
abbrev rels (rs : List Rn) : List El := rs.map Rn.el
end Go.Fw
namespace Go.Proofs.YtjbeooimhoilmaaGreatDoor
open Go.RowKit Go.Fw Go.Fu
abbrev TR8 : TypeId := 62
abbrev TE8 : TypeId := 93
abbrev TD8 : TypeId := 43
structure RtAt (w : World) (g : Nat) (ad : List Dig) (rs : List Rn) (av ev_ : Value) : Prop where
 blk : Blk w g TR8 [av, ev_]
 ads : Own w TD8 32 av (flatD ad)
 es : Own w TE8 38 ev_ ((rs.map rC).flatten)
 kids : ∀ x ∈ rs, ∀ s, Own w 3 1 (x.sv s) (intC (side x.el s))
def Rp (g : Nat) (rs : List Rn) (av ev_ : Value) (k : Nat) : Prop := k = g ∨ av.ownBlock = some k ∨ ev_.ownBlock = some k ∨ ∃ x ∈ rs, ∃ s, (x.sv s).ownBlock = some k
section
variable {w w' : World} {g : Nat} {ad : List Dig} {rs : List Rn} {av ev_ : Value} {S : Nat → Prop}
theorem RtAt.lt (h : RtAt w g ad rs av ev_) {k : Nat} (hk : Rp g rs av ev_ k) : k < w.heap.size := by
 rcases hk with rfl | hk | hk | ⟨x, hx, s, hk⟩
 ·
  exact h.blk.lt
 ·
  exact h.ads.lt k hk
 ·
  exact h.es.lt k hk
 ·
  exact (h.kids x hx s).lt k hk
theorem RtAt.chg (h : RtAt w g ad rs av ev_) (hc : Chg S w w') (hs : ∀ k, Rp g rs av ev_ k → ¬ S k) : RtAt w' g ad rs av ev_ where
 blk := h.blk.chg hc (hs g (.inl rfl))
 ads := h.ads.chg hc fun k hk => hs k (.inr (.inl hk))
 es := h.es.chg hc fun k hk => hs k (.inr (.inr (.inl hk)))
 kids x hx s := (h.kids x hx s).chg hc fun k hk => hs k (.inr (.inr (.inr ⟨x, hx, s, hk⟩)))
theorem RtAt.ext (h : RtAt w g ad rs av ev_) (hc : Ext w w') : RtAt w' g ad rs av ev_ := h.chg hc fun _ _ f => f
theorem RtAt.far (h : RtAt w g ad rs av ev_) (hc : Chg S w w') (hs : ∀ k, S k → w.heap.size ≤ k) : RtAt w' g ad rs av ev_ := h.chg hc fun k hk hS => by have := hs k hS; have := h.lt hk; omega
theorem RtAt.ne (h : RtAt w g ad rs av ev_) : (∀ k, av.ownBlock = some k → k ≠ g ∧ ev_.ownBlock ≠ some k) ∧ (∀ k, ev_.ownBlock = some k → k ≠ g) ∧ ∀ x ∈ rs, ∀ s k, (x.sv s).ownBlock = some k → k ≠ g ∧ av.ownBlock ≠ some k ∧ ev_.ownBlock ≠ some k := by
 have hb := h.blk
 unfold Blk at hb
 have kd : ∀ {k : Nat} {c1 c2 : Array Value} {t1 t2 : TypeId} {f1 f2 : Nat × Nat}, w.heap[k]? = some (.cells c1 t1 f1) → w.heap[k]? = some (.cells c2 t2 f2) → t1 = t2 := fun h1 h2 => by
  rw [h1] at h2; injection h2 with h2; injection h2
 refine ⟨fun k hk => ⟨?_, fun hk2 => ?_⟩, fun k hk => ?_, fun x hx s k hk => ⟨?_, fun hk2 => ?_, fun hk2 => ?_⟩⟩
 ·
  rintro rfl
  obtain ⟨_, _, h1⟩ := h.ads.kind hk
  exact absurd (kd h1 hb) (by decide)
 ·
  obtain ⟨_, _, h1⟩ := h.ads.kind hk
  obtain ⟨_, _, h2⟩ := h.es.kind hk2
  exact absurd (kd h1 h2) (by decide)
 ·
  rintro rfl
  obtain ⟨_, _, h1⟩ := h.es.kind hk
  exact absurd (kd h1 hb) (by decide)
 ·
  rintro rfl
  obtain ⟨_, _, h1⟩ := (h.kids x hx s).kind hk
  exact absurd (kd h1 hb) (by decide)
 ·
  obtain ⟨_, _, h1⟩ := (h.kids x hx s).kind hk
  obtain ⟨_, _, h2⟩ := h.ads.kind hk2
  exact absurd (kd h1 h2) (by decide)
 ·
  obtain ⟨_, _, h1⟩ := (h.kids x hx s).kind hk
  obtain ⟨_, _, h2⟩ := h.es.kind hk2
  exact absurd (kd h1 h2) (by decide)
theorem RtAt.sl (h : RtAt w g ad rs av ev_) : Sl w rC 38 ev_ rs := h.es.sl rC_length (by decide)
end
end Go.Proofs.YtjbeooimhoilmaaGreatDoor
/- The document's trees: New, Find, ahead, put, walked. No condition. -/
namespace Go.Fu
open Go.Fw Go.Pl
end Go.Fu
namespace Go.Fw
end Go.Fw
namespace Go.Proofs.YtjbeooimhoilmaaGreatDoor
open Go.RowKit Go.Fw Go.Fu Go.Pl
abbrev TI8 : TypeId := 3
end Go.Proofs.YtjbeooimhoilmaaGreatDoor
/- The document's trees: Add, walked. No condition. -/
namespace Go.Fw
open Go.Fu Go.Pl
theorem RS.storeO {P : Program} {n : NN} {Φ : Exit → Fr → World → Prop} {fr : Fr} {w : World} {ops : Array Oper} {S : World → Prop} {fuel : Nat} {listed : Array Bool} {ty : TypeId} {i : Nat} {t e : TypeId} {x y : Operand} {pos : String} {aft : Array Edge} {v : Value} {g k m c : Nat} {pre old post new : List Value} {A : Addr}
  (hi : ops[i]? = some ⟨none, .store t x y, ty, pos, aft, none⟩)
  (hx : ev fr x = some (.pointer (some A))) (hA : A = ⟨g, pre.length, none⟩) (hy : ev fr y = some v) (hv : v.cells = new.toArray) (hS : (P.info? t).map (·.size) = some new.length)
  (hown : Own w e k (.slice (some ⟨g, 0, none⟩) m c) (pre ++ old ++ post)) (hl : new.length = old.length) (h1 : ∀ u ∈ new, u.oneCell' = true)
  (h : ∀ w', Chg (· = g) w w' → Own w' e k (.slice (some ⟨g, 0, none⟩) m c) (pre ++ new ++ post) → S w' ∧ RH P ops S n Φ fuel (listed.setIfInBounds i true) fr w') : RS P ops S n Φ fuel listed i fr w := fun a ha => by
 obtain ⟨w', hst, hc, hb'⟩ := hown.store (P := P) hl h1
 have hrun : (execOp a.eval ⟨none, .store t x y, ty, pos, aft, none⟩).run P w = .ok .skip w' := by
  simp [execOp, ha.ev hx, ha.ev hy, Instr.storeAt, Instr.sureAddr, storeVar, fw_sizeOf hS, hv, hA, hst]
 obtain ⟨h1, h2⟩ := h w' hc hb'
 unfold wpOp
 rw [hi]
 simp only [Region.wanted, if_true]
 refine .inl ?_
 unfold Oper.wp
 rw [hrun]
 exact ⟨h1, h2 _ ha⟩
theorem Own.blk {w : World} {e : TypeId} {k m c : Nat} {A : Option Addr} {xs : List Value} (h : Own w e k (.slice A m c) xs) (hx : xs ≠ []) : ∃ g, A = some ⟨g, 0, none⟩ := by
 rcases h with ⟨_, h⟩ | ⟨g, _, _, _, _, h, _⟩
 ·
  exact absurd h hx
 ·
  injection h with h
  exact ⟨g, h⟩
def Rn.die (z : Rn) : Rn := ⟨{ z.el with gone := true }, z.lv, z.rv⟩
noncomputable def Rn.more (z : Rn) (e : List El) (s : Bool) (r : RefD) (v : Value) : Rn := ⟨z.el.more e s r, cond s v z.lv, cond s z.rv v⟩
def Rn.one (r : RefD) (b : UInt8) : Rn := ⟨⟨r, b, false, [], []⟩, .slice none 0 0, .slice none 0 0⟩
theorem modify_set {l : List El} {a : Nat} {x : El} {f : El → El} (h : l[a]? = some x) : l.modify a f = l.set a (f x) := by
 refine List.ext_getElem? fun i => ?_
 have hl := (List.getElem?_eq_some_iff.1 h).1
 rw [List.getElem?_modify, List.getElem?_set]
 by_cases e : a = i
 ·
  subst e; rw [h]; simp [hl]
 ·
  simp [e]
theorem rels_die {l : List Rn} {a : Nat} {z : Rn} (h : l[a]? = some z) : rels (l.set a z.die) = goneE (rels l) a := by
 rw [goneE, modify_set (x := z.el) (by rw [List.getElem?_map, h]; rfl), rels, List.map_set]; rfl
theorem rels_more {l : List Rn} {a : Nat} {z : Rn} {s : Bool} {r : RefD} {b : UInt8} {v : Value} (h : l[a]? = some z) : rels ((l ++ [Rn.one r b]).set a (z.more (rels l) s r v)) = growE (rels l) a s r b := by
 have hl := (List.getElem?_eq_some_iff.1 h).1
 rw [growE, modify_set (x := z.el) (by rw [List.getElem?_append_left (by rw [List.length_map]; exact hl), List.getElem?_map, h]; rfl), rels, List.map_set, List.map_append]; rfl
end Go.Fw
namespace Go.Proofs.YtjbeooimhoilmaaGreatDoor
open Go.RowKit Go.Fw Go.Fu Go.Pl
section
variable {w w' : World} {g : Nat} {ad : List Dig} {rs : List Rn} {av ev_ : Value} {S : Nat → Prop}
theorem RtAt.set (h : RtAt w g ad rs av ev_) {a : Nat} {y : Rn} (hc : Chg S w w') (hS : ∀ q, S q → ev_.ownBlock = some q) (hO : Own w' TE8 38 ev_ (((rs.set a y).map rC).flatten)) (hk : ∀ s, Own w' TI8 1 (y.sv s) (intC (side y.el s))) : RtAt w' g ad (rs.set a y) av ev_ where
 blk := h.blk.chg hc fun e => h.ne.2.1 g (hS _ e) rfl
 ads := h.ads.chg hc fun k hk e => (h.ne.1 k hk).2 (hS _ e)
 es := hO
 kids x hx s := by
  rcases List.mem_or_eq_of_mem_set hx with hx | rfl
  ·
   exact (h.kids x hx s).chg hc fun k hk e => (h.ne.2.2 x hx s k hk).2.2 (hS _ e)
  ·
   exact hk s
theorem RtAt.push (h : RtAt w g ad rs av ev_) {y : Rn} {ev' : Value} (hc : Chg S w w') (hS : ∀ q, S q → q = g ∨ ev_.ownBlock = some q) (hb : Blk w' g TR8 [av, ev']) (hO : Own w' TE8 38 ev' (((rs ++ [y]).map rC).flatten)) (hk : ∀ s, Own w' TI8 1 (y.sv s) (intC (side y.el s))) : RtAt w' g ad (rs ++ [y]) av ev' where
 blk := hb
 ads := h.ads.chg hc fun k hk e => by
  rcases hS _ e with e | e
  ·
   exact (h.ne.1 k hk).1 e
  ·
   exact (h.ne.1 k hk).2 e
 es := hO
 kids x hx s := by
  rcases List.mem_append.1 hx with hx | hx
  ·
   exact (h.kids x hx s).chg hc fun k hk e => by
    rcases hS _ e with e | e
    ·
     exact (h.ne.2.2 x hx s k hk).1 e
    ·
     exact (h.ne.2.2 x hx s k hk).2.2 e
  ·
   simp at hx; subst hx; exact hk s
theorem Rp.setR {a : Nat} {y : Rn} {q : Nat} (h : Rp g (rs.set a y) av ev_ q) : Rp g rs av ev_ q ∨ ∃ s, (y.sv s).ownBlock = some q := by
 rcases h with h | h | h | ⟨x, hx, s, h⟩
 ·
  exact .inl (.inl h)
 ·
  exact .inl (.inr (.inl h))
 ·
  exact .inl (.inr (.inr (.inl h)))
 ·
  rcases List.mem_or_eq_of_mem_set hx with hx | rfl
  ·
   exact .inl (.inr (.inr (.inr ⟨x, hx, s, h⟩)))
  ·
   exact .inr ⟨s, h⟩
theorem Rp.pushR {y : Rn} {ev' : Value} {q : Nat} (h : Rp g (rs ++ [y]) av ev' q) : Rp g rs av ev_ q ∨ ev'.ownBlock = some q ∨ ∃ s, (y.sv s).ownBlock = some q := by
 rcases h with h | h | h | ⟨x, hx, s, h⟩
 ·
  exact .inl (.inl h)
 ·
  exact .inl (.inr (.inl h))
 ·
  exact .inr (.inl h)
 ·
  rcases List.mem_append.1 hx with hx | hx
  ·
   exact .inl (.inr (.inr (.inr ⟨x, hx, s, h⟩)))
  ·
   simp at hx; subst hx; exact .inr (.inr ⟨s, h⟩)
end
structure RAdd (w w0 : World) (g : Nat) (ad : List Dig) (rs : List Rn) (av ev_ : Value) (id : Dig) (ops : List OpD) (g4 : Nat) (k : Nat) (t : List Rn × Value × Value) : Prop where
 tree : RtAt w0 g (ad ++ [id]) t.1 t.2.1 t.2.2
 els : rels t.1 = addN id ops (rels rs) k
 chg : Chg (Rp g rs av ev_) w w0
 fresh : ∀ q, Rp g t.1 t.2.1 t.2.2 q → Rp g rs av ev_ q ∨ w.heap.size ≤ q
 idb : Blk w0 g4 TD8 (digC id)
 idn : ¬ Rp g t.1 t.2.1 t.2.2 g4
section
variable {w w0 w1 w' : World} {g : Nat} {ad : List Dig} {rs rs2 : List Rn} {av ev_ av2 ev2 ev3 : Value} {id : Dig} {ops : List OpD} {g4 k a : Nat} {z : Rn} {o : OpD}
theorem RAdd.del {gE : Nat} (h : RAdd w w0 g ad rs av ev_ id ops g4 k (rs2, av2, ev2)) (hx : Ext w0 w1) (hc : Chg (fun q => q = gE) w1 w') (hgE : ev2.ownBlock = some gE) (hz : rs2[a]? = some z) (hO : Own w' TE8 38 ev2 (((rs2.set a z.die).map rC).flatten)) (ho : ops[k]? = some o) (ha : atE (rels rs2) (res id o.at_) = some a) (hk : o.kind = 2) : RAdd w w' g ad rs av ev_ id ops g4 (k + 1) (rs2.set a z.die, av2, ev2) where
 tree := by
  have hT : RtAt w0 g (ad ++ [id]) rs2 av2 ev2 := h.tree
  refine (hT.ext hx).set hc (fun q e => by rw [e]; exact hgE) hO fun s => ?_
  have h1 := ((hT.kids z (List.mem_of_getElem? hz) s).ext hx).chg hc fun q hq e => (hT.ne.2.2 z (List.mem_of_getElem? hz) s q hq).2.2 (by rw [e]; exact hgE)
  cases s <;> exact h1
 els := by
  have he : rels rs2 = addN id ops (rels rs) k := h.els
  show rels (rs2.set a z.die) = _
  rw [rels_die hz, addN_at ho, ← he, step_del ha hk]
 chg := h.chg.stepO ((Ext.chg hx).trans hc fun q _ e => e) fun q hq => h.fresh q (.inr (.inr (.inl (by rw [show q = gE from hq]; exact hgE))))
 fresh q hq := by
  rcases Rp.setR hq with hq | ⟨s, hq⟩
  ·
   exact h.fresh q hq
  ·
   exact h.fresh q (.inr (.inr (.inr ⟨z, List.mem_of_getElem? hz, s, by cases s <;> exact hq⟩)))
 idb := (h.idb.ext hx).chg hc fun e => h.idn (.inr (.inr (.inl (by rw [e]; exact hgE))))
 idn hq := by
  rcases Rp.setR hq with hq | ⟨s, hq⟩
  ·
   exact h.idn hq
  ·
   exact h.idn (.inr (.inr (.inr ⟨z, List.mem_of_getElem? hz, s, by cases s <;> exact hq⟩)))
theorem RAdd.ins {v : Value} (h : RAdd w w0 g ad rs av ev_ id ops g4 k (rs2, av2, ev2)) (hc : Chg (fun q => q = g ∨ ev2.ownBlock = some q) w0 w') (hz : rs2[a]? = some z) (hT : RtAt w' g (ad ++ [id]) ((rs2 ++ [Rn.one ⟨false, id, (k : Int) + 1⟩ o.byte]).set a (z.more (rels rs2) o.left ⟨false, id, (k : Int) + 1⟩ v)) av2 ev3)
  (he : ∀ q, ev3.ownBlock = some q → ev2.ownBlock = some q ∨ w0.heap.size ≤ q) (hv : ∀ q, v.ownBlock = some q → w0.heap.size ≤ q) (ho : ops[k]? = some o) (ha : atE (rels rs2) (res id o.at_) = some a) (hk : o.kind = 1) :
  RAdd w w' g ad rs av ev_ id ops g4 (k + 1) ((rs2 ++ [Rn.one ⟨false, id, (k : Int) + 1⟩ o.byte]).set a (z.more (rels rs2) o.left ⟨false, id, (k : Int) + 1⟩ v), av2, ev3) := by
 have hsub : ∀ q, Rp g ((rs2 ++ [Rn.one ⟨false, id, (k : Int) + 1⟩ o.byte]).set a (z.more (rels rs2) o.left ⟨false, id, (k : Int) + 1⟩ v)) av2 ev3 q → Rp g rs2 av2 ev2 q ∨ w0.heap.size ≤ q := fun q hq => by
  rcases Rp.setR hq with hq | ⟨s, hq⟩
  ·
   rcases Rp.pushR (ev_ := ev2) hq with hq | hq | ⟨s, hq⟩
   ·
    exact .inl hq
   ·
    rcases he q hq with hq | hq
    ·
     exact .inl (.inr (.inr (.inl hq)))
    ·
     exact .inr hq
   ·
    cases s <;> simp [Rn.one, Rn.sv, Value.ownBlock] at hq
  ·
   have h2 : v.ownBlock = some q ∨ (z.sv s).ownBlock = some q := by
    revert hq
    unfold Rn.more Rn.sv
    cases s <;> cases o.left <;> intro hq <;> first | exact .inl hq | exact .inr hq
   rcases h2 with h2 | h2
   ·
    exact .inr (hv q h2)
   ·
    exact .inl (.inr (.inr (.inr ⟨z, List.mem_of_getElem? hz, s, h2⟩)))
 have hls := h.idb.lt
 exact {
  tree := hT
  els := by
   have he : rels rs2 = addN id ops (rels rs) k := h.els
   show rels _ = _
   rw [rels_more hz, addN_at ho, ← he, step_ins ha hk]
  chg := h.chg.stepO hc fun q hq => h.fresh q (by
   rcases hq with hq | hq
   ·
    exact .inl hq
   ·
    exact .inr (.inr (.inl hq)))
  fresh := fun q hq => by
   rcases hsub q hq with hq | hq
   ·
    exact h.fresh q hq
   ·
    have := h.chg.size; exact .inr (by omega)
  idb := h.idb.chg hc fun e => h.idn (by
   rcases e with hq | hq
   ·
    exact .inl hq
   ·
    exact .inr (.inr (.inl hq)))
  idn := fun hq => by
   rcases hsub g4 hq with hq | hq
   ·
    exact h.idn hq
   ·
    omega }
end
end Go.Proofs.YtjbeooimhoilmaaGreatDoor
/- The law's functions: commits, alive, Grown, place, walked. No condition. -/
namespace Go.Fw
open Go.Fu Go.Pl
structure CmV where
 id : Dig
 ops : List OpD
 A : Option Addr
 c : Nat
abbrev CmV.pv (x : CmV) : Value := .slice x.A x.ops.length x.c
def cmC (x : CmV) : List Value := digC x.id ++ [x.pv]
def CmV.zero : CmV := ⟨Dig.zero, [], none, 0⟩
section
variable {w : World} {a : Addr} {x : CmV}
end
structure Cms (w : World) (u : Value) (l : List CmV) : Prop where
 sl : Sl w cmC 33 u l
 ops : ∀ x ∈ l, Sl w opC 37 x.pv x.ops
 fit : ∀ x ∈ l, x.ops.length * 72 ≤ 140737488355328
 few : l.length < 4398046511104
theorem Cms.ext {w w' : World} {u : Value} {l : List CmV} (h : Cms w u l) (hc : Ext w w') : Cms w' u l := ⟨h.sl.ext hc, fun x hx => (h.ops x hx).ext hc, h.fit, h.few⟩
theorem Sl.own_lt {α : Type} {w : World} {enc : α → List Value} {k : Nat} {v : Value} {xs : List α} (h : Sl w enc k v xs) (he : ∀ x, enc x ≠ []) (hx : xs ≠ []) : ∀ b, v.ownBlock = some b → b < w.heap.size := by
 obtain ⟨A, m, c, rfl, _, _, _, hg⟩ := h
 cases xs with
 | nil => exact absurd rfl hx
 | cons y r =>
  obtain ⟨a, rfl, hm⟩ := hg 0 y rfl
  intro b hb
  have h1 := hm.lt (he y)
  simp [Value.ownBlock] at hb
  have h2 : (a.add (0 * k)).block = a.block := by unfold Addr.add; split <;> rfl
  rw [h2] at h1
  omega
theorem run_bsK2 {P : Program} {t e : TypeId} {ie : TypeInfo} {z : Value} {a b : Value} {xs ys : List Value} (hu : P.underlying t = some (.slice e)) (hi : P.info? e = some ie) (hz : ie.zero = some z) (h0 : 0 < ie.size) (hsm : ie.size * 2 ≤ 16777216) (ha : a.cells = xs.toArray) (hb : b.cells = ys.toArray) (hla : xs.length = ie.size) (hlb : ys.length = ie.size) (w : World) :
  (Instr.buildSlice t 2 [(0, a), (1, b)].toArray).run P w = .ok (.slice (some ⟨w.heap.size, 0, none⟩) 2 2) (w.alloc (.cells (xs ++ ys).toArray e)) := by
 refine run_buildSlice w t e 2 _ _ ie z hu hi hz (by omega) (by omega) ?_
 have h := Go.Great.fill_whole (s := ie.size) h0 [a, b] ((Array.range (2 * ie.size)).map (z.cells[· % z.cells.size]!)) (by intro u hu; simp at hu; rcases hu with rfl | rfl <;> simp [*]) (by simp)
 simpa [ha, hb] using h
end Go.Fw
namespace Go.Proofs.YtjbeooimhoilmaaGreatDoor
open Go.RowKit Go.Fw Go.Fu Go.Pl
theorem bs2_op (x y : OpD) (w : World) : (Instr.buildSlice 46 2 [(0, opV x), (1, opV y)].toArray).run Tryz.prog w = .ok (.slice (some ⟨w.heap.size, 0, none⟩) 2 2) (w.alloc (.cells (opC x ++ opC y).toArray 70)) := by
 obtain ⟨i, z, hi, hz, hk, _⟩ := ai_op
 exact run_bsK2 Tryz.underlying46 hi hz (by omega) (by omega) rfl rfl (by rw [opC_length, hk]) (by rw [opC_length, hk]) w
theorem Blk.own {w : World} {g k m : Nat} {t : TypeId} {cs : List Value} (h : Blk w g t cs) (hl : cs.length = m * k) (hm : m ≤ maxLen) : Own w t k (.slice (some ⟨g, 0, none⟩) m m) cs := .inr ⟨g, m, m, [], (0, 0), rfl, (by have h9 : w.heap[g]? = _ := h; simpa using h9), by simp [hl], by omega, hm, by simp [hl], fun o _ => by simp⟩
theorem Fp.ofNew {g rb ra gn q : Nat} (h : Fp g rb ra (newN gn) q) : q = g ∨ q = rb ∨ q = ra ∨ q = gn := by
 rcases h with h | h | h | ⟨x, hx, h⟩
 ·
  exact .inl h
 ·
  exact .inr (.inl h)
 ·
  exact .inr (.inr (.inl h))
 ·
  simp [newN] at hx
  subst hx
  rcases h with h | ⟨s, h⟩
  ·
   exact .inr (.inr (.inr h))
  ·
   cases s <;> simp [Nn.sv, Value.ownBlock] at h
theorem opC_ne (x : OpD) : opC x ≠ [] := fun h => by have := opC_length x; rw [h] at this; cases this
end Go.Proofs.YtjbeooimhoilmaaGreatDoor
