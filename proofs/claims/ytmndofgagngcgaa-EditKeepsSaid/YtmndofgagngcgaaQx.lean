/- Fugue's tree: an element's copy, walked. No condition. -/
import Derived.Test.YtmndofgagngcgaaQw
import Derived.Test.YtmndofgagngcgaaQt
import Derived.Test.YtmndofgagngcgaaQs
set_option linter.unusedSimpArgs false
set_option linter.unusedVariables false
namespace Go.Proofs.Ytmndofgagngcgaa
open Go.RowKit Go.Fw Go.Fu Go.Pl
theorem build_node3 (r : RefD) (b : UInt8) (gn : Bool) (w : World) : (Instr.build TN [(0, refV r), (1, Value.int .u8 (b.toNat : Int)), (2, Value.bool gn)].toArray).run Try.prog w = .ok (.agg (nodeC ⟨r, b, gn, [], []⟩ (.slice none 0 0) (.slice none 0 0)).toArray) w := run_build w _ _ _ (by
  have hb : ∀ parts, Try.prog.built TN parts = Instr.fill (fun i => #[(0, 34), (34, 1), (35, 1), (36, 1), (37, 1)][i]?) (nodeC ⟨RefD.zero, 0, false, [], []⟩ (.slice none 0 0) (.slice none 0 0)).toArray parts := fun parts => by kernel_rfl
  show Try.prog.built _ [(0, refV r), (1, Value.int .u8 (b.toNat : Int)), (2, Value.bool gn)] = _
  rw [hb]
  have e0 : nodeC ⟨RefD.zero, 0, false, [], []⟩ (.slice none 0 0) (.slice none 0 0) = [] ++ refC RefD.zero ++ [bc 0, .bool false, .slice none 0 0, .slice none 0 0] := rfl
  rw [e0, fill_step [] (refC RefD.zero) [bc 0, .bool false, .slice none 0 0, .slice none 0 0] (refC r) (by rw [refC_length]; rfl) rfl (by rw [refC_length, refC_length]) rfl]
  have e1 : [] ++ refC r ++ [bc 0, .bool false, .slice none 0 0, .slice none 0 0] = refC r ++ [bc 0] ++ [.bool false, .slice none 0 0, .slice none 0 0] := by simp
  rw [e1, fill_step (refC r) [bc 0] [.bool false, .slice none 0 0, .slice none 0 0] [.int .u8 (b.toNat : Int)] rfl rfl rfl (refC_length r)]
  have e2 : refC r ++ [Value.int .u8 (b.toNat : Int)] ++ [Value.bool false, .slice none 0 0, .slice none 0 0] = (refC r ++ [Value.int .u8 (b.toNat : Int)]) ++ [Value.bool false] ++ [Value.slice none 0 0, .slice none 0 0] := by simp
  rw [e2, fill_step (refC r ++ [Value.int .u8 (b.toNat : Int)]) [Value.bool false] [Value.slice none 0 0, .slice none 0 0] [Value.bool gn] rfl rfl rfl (by rw [List.length_append, refC_length]; rfl), Instr.fill]
  simp [nodeC, bc])
section
variable {n : NN} {fr : Fr} {w : World} {ty : TypeId} {x y : Operand} {t' : TypeId}
theorem Y.neq_node2 {a b : Nat} {ca cb : List Value} (ha : Blk w a TN ca) (hb : Blk w b TN cb) (hx : ev fr x = some (.pointer (some ⟨a, 0, none⟩))) (hy : ev fr y = some (.pointer (some ⟨b, 0, none⟩))) : Yw Try.prog n fr (.binOp .neq TP x y t') ty w (.bool (!decide (a = b))) w := by
  obtain ⟨j, hj, hjs⟩ : ∃ j : TypeInfo, Try.prog.info? TN = some j ∧ j.size = 38 := by
    have := szN
    obtain ⟨j, hj, h⟩ := Option.map_eq_some_iff.1 this
    exact ⟨j, hj, h⟩
  refine Y.bin hx hy (by simp [eqGuard]) ?_
  have h : ∀ d : Nat, (Op.equalIn (d + 1) TP (.pointer (some ⟨a, 0, none⟩)) (.pointer (some ⟨b, 0, none⟩))).run Try.prog w = .ok (decide (a = b)) w := fun d => by
    by_cases e : a = b
    · subst e; simp [Op.equalIn, run_underlying Try.underlying42, sizeOf, typeInfo, hj, run_sameAddr_same]
    · have hne : (⟨a, 0, none⟩ : Addr) ≠ ⟨b, 0, none⟩ := fun h => e (by injection h)
      have := run_sameAddr_other (P := Try.prog) w hne (ha : w.heap[(⟨a, 0, none⟩ : Addr).block]? = _) (hb : w.heap[(⟨b, 0, none⟩ : Addr).block]? = _)
      simp [Op.equalIn, run_underlying Try.underlying42, sizeOf, typeInfo, hj, hjs, this, e]
  simp only [binOp]
  simp [Op.equal, Op.maxDepth, h 9999]
end
theorem CpMid.kne {w0 w wj : World} {ns : List Nn} {g gf gt gc g2 rb2 gr ra2 n2 : Nat} {D Dk : List (Nat × Nn)} {el : El} {gm : Nat} {u v : Value} {us vs done : List Nat} (h : CpMid w0 w wj ns g gf gt gc g2 rb2 gr ra2 n2 D Dk el gm u v us vs done) : (∀ k, u.ownBlock = some k ∨ v.ownBlock = some k → k ≠ gm ∧ k ≠ gf) ∧ gm ≠ gf ∧ rb2 ≠ gf := by
  refine ⟨fun k hk => ⟨?_, ?_⟩, ?_, ?_⟩
  · rintro rfl
    rcases hk with hk | hk
    · obtain ⟨_, _, hb⟩ := h.own.1.kind hk; exact absurd (blk_kind hb h.blk) (by decide)
    · obtain ⟨_, _, hb⟩ := h.own.2.kind hk; exact absurd (blk_kind hb h.blk) (by decide)
  · rintro rfl
    rcases hk with hk | hk
    · obtain ⟨_, _, hb⟩ := h.own.1.kind hk; exact absurd (blk_kind hb h.cp.from_) (by decide)
    · obtain ⟨_, _, hb⟩ := h.own.2.kind hk; exact absurd (blk_kind hb h.cp.from_) (by decide)
  · rintro rfl; exact absurd (blk_kind h.blk h.cp.from_) (by decide)
  · rintro rfl; exact blk_map h.cp.from_ h.cp.map
theorem us_step {l : List Nat} {Dk X : List (Nat × Nn)} {k q : Nat} {y : Nn} (hn : ((Dk ++ X).map (·.1)).Nodup) (hq : l[k]? = some q) (hin : ∀ c ∈ l.take k, ∃ p ∈ Dk, p.1 = c) (hy : (q, y) ∈ X) : (l.take k).map (gD Dk) ++ [y.g] = (l.take (k + 1)).map (gD (Dk ++ X)) := by
  rw [List.take_add_one, hq, List.map_append]
  congr 1
  · exact List.map_congr_left fun c hc => (gD_app (hin c hc)).symm
  · have := gD_mem hn (p := (q, y)) (by simp [hy])
    simpa using this.symm
theorem child_new {e : List El} (hG : Fu.Good e) {i q : Nat} (hil : i < e.length) {D Dk : List (Nat × Nn)} {done : List Nat} (hcov : ∀ j, (∃ p ∈ Dk, p.1 = j) → (∃ p ∈ D, p.1 = j) ∨ j ∈ done) (hsub : (done ++ walkE e q).Sublist (walkE e i)) (hno : ∀ p ∈ D, p.1 ∉ walkE e i) : ∀ p ∈ Dk, p.1 ∉ walkE e q := fun p hp hpq => by
  rcases hcov p.1 ⟨p, hp, rfl⟩ with ⟨p', hp', he⟩ | hd
  · exact hno p' hp' (by rw [he]; exact hsub.subset (List.mem_append_right _ hpq))
  · have := List.nodup_append.1 (List.Nodup.sublist hsub (walk_nodup hG i hil))
    exact this.2.2 p.1 hd p.1 hpq rfl
theorem walk_self {e : List El} (h : Down e) {c : Nat} (hc : c < e.length) : c ∈ walkE e c := by
  obtain ⟨x, hx⟩ : ∃ x, e[c]? = some x := ⟨_, List.getElem?_eq_getElem hc⟩
  rw [walkE_eq h hx]; simp
theorem flat_pre {l : List Nat} {f : Nat → List Nat} {k c : Nat} (h : l[k]? = some c) : ((l.take k).flatMap f ++ f c).Sublist (l.flatMap f) := by
  rw [← flat_takeS h]
  have h2 : l.flatMap f = (l.take (k + 1)).flatMap f ++ (l.drop (k + 1)).flatMap f := by rw [← List.flatMap_append, List.take_append_drop]
  rw [h2]; exact List.sublist_append_left _ _

set_option maxRecDepth 100000 in
set_option maxHeartbeats 4000000 in
theorem fcopy1_step (g rb ra : Nat) (ad : List Dig) (ns : List Nn) (gf gt gc g2 rb2 gr ra2 n2 i : Nat) (z : Nn) (wB w : World) (D : List (Nat × Nn)) (hT : FtAt wB g rb ra ad ns) (hG : Fu.Good (Fw.els ns)) (hn : ns.length ≤ 400001) (hzi : ns[i]? = some z) (IH : ∀ c, c ∈ z.el.left ∨ c ∈ z.el.right → CpOk wB ns g gf gt gc g2 rb2 gr ra2 n2 c) (hD : CpAt wB w ns g gf gt gc g2 rb2 gr ra2 n2 D) (hno : ∀ p ∈ D, p.1 ∉ walkE (Fw.els ns) i) : Calls Try.prog 43 #[.pointer (some ⟨gOf ns i, 0, none⟩), .pointer (some ⟨gf, 0, none⟩), .pointer (some ⟨gt, 0, none⟩), .pointer (some ⟨gc, 0, none⟩)] w (Ret fun r w' => ∃ X y, r = .pointer (some ⟨y.g, 0, none⟩) ∧ CpAt wB w' ns g gf gt gc g2 rb2 gr ra2 n2 (D ++ X) ∧ (i, y) ∈ X ∧ (∀ j, (∃ p ∈ X, p.1 = j) ↔ j ∈ walkE (Fw.els ns) i) ∧ (∀ p ∈ X, w.heap.size ≤ p.2.g ∧ ∀ (s : Bool) (k : Nat), (p.2.sv s).ownBlock = some k → w.heap.size ≤ k) ∧ Chg (fun k => k = rb2) w w') := by
  rw [gOf_at hzi]
  have hzi0 := hzi
  have hkb1 := (hT.kidsBs hG hzi true).2.2.1
  have hkb2 := (hT.kidsBs hG hzi false).2.2.1
  obtain ⟨xe, gx, lv, rv⟩ := z
  have hze : (Fw.els ns)[i]? = some xe := by rw [List.getElem?_map, hzi]; rfl
  have hil := (List.getElem?_eq_some_iff.1 hze).1
  have hkl : Own wB TP 1 lv (ptrL (xe.left.map (gOf ns))) := hT.kids i _ true hzi
  have hkr : Own wB TP 1 rv (ptrL (xe.right.map (gOf ns))) := hT.kids i _ false hzi
  have hz0 : Blk wB gx TN (nodeC xe lv rv) := hT.node i _ hzi
  have hwk := walkE_eq hG.down hze
  have hdn := hG.down i xe hze
  dsimp only at IH ⊢
  obtain ⟨A, m, c, rfl⟩ := hkl.lens
  obtain ⟨A2, m2, c2, rfl⟩ := hkr.lens
  obtain ⟨hlm, hlg⟩ := ptr_map hkl
  obtain ⟨hrm, hrg⟩ := ptr_map hkr
  have hcm := (hkl.mem A m c rfl).2.2.2
  have hcm2 := (hkr.mem A2 m2 c2 rfl).2.2.2
  unfold maxLen at hcm hcm2
  have hm1 : m ≤ 400001 := by rw [List.length_map] at hkb1; have : xe.left.length ≤ ns.length := hkb1; omega
  have hm2 : m2 ≤ 400001 := by rw [List.length_map] at hkb2; have : xe.right.length ≤ ns.length := hkb2; omega
  have hzb := hz0.ext hD.ext
  refine calls_of_CW 85 [5] [(0, .pointer (some ⟨gx, 0, none⟩)), (1, .pointer (some ⟨gf, 0, none⟩)), (2, .pointer (some ⟨gt, 0, none⟩)), (3, .pointer (some ⟨gc, 0, none⟩))] Try.func43 rfl rfl rfl (by simp) args4 ?_
  have hE : Ext w w := Chg.refl
  refine CW.seq fun K1 hK1 => ?_
  refine CW.region ?_
  refine WL.val (Y.assign rfl) (by decide) ?_
  refine WL.nil ?_
  refine hK1 _ _ ?_; try clear hK1 K1
  refine CW.seq fun K2 hK2 => ?_
  refine CW.head 13 (by kernel_rfl) (by kernel_rfl) fun w1 hx1 => ?_
  skip; have hz1 := hx1.size; have hE := hE.thenExt hx1
  refine HL.val (Y.move rfl) (by decide) ?_
  refine HL.val (Y.nilCheck rfl) (by decide) ?_
  refine HL.val (Y.fieldAddr fo_fuguenode0 rfl) (by decide) ?_
  refine HL.val (Y.load Try.underlying61 rfl ((hzb.ext hE).mem.fuguenode0) (sz_apiRef _) rfl) (by decide) ?_
  refine HL.val (Y.move rfl) (by decide) ?_
  refine HL.val (Y.nilCheck rfl) (by decide) ?_
  refine HL.val (Y.fieldAddr fo_fuguenode1 rfl) (by decide) ?_
  refine HL.val (Y.load1 Try.underlying5 rfl ((hzb.ext hE).mem.fuguenode1) rfl) (by decide) ?_
  refine HL.val (Y.move rfl) (by decide) ?_
  refine HL.val (Y.nilCheck rfl) (by decide) ?_
  refine HL.val (Y.fieldAddr fo_fuguenode2 rfl) (by decide) ?_
  refine HL.val (Y.load1 Try.underlying4 rfl ((hzb.ext hE).mem.fuguenode2) rfl) (by decide) ?_
  refine HL.val (Y.build rfl (build_node3 _ _ _ _)) (by decide) ?_
  refine HL.nil ?_
  refine WL.box rfl rfl (by decide) fun g24 w2 hx2 hg24 hB24 => ?_
  have hlt24 := hB24.lt; have hz2 := hx2.size
  have hM24 := hB24.mem; have hz2 := hx2.size; have hE := hE.thenExt hx2
  refine WL.val (Y.assign rfl) (by decide) ?_
  refine WL.nil ?_
  refine hK2 _ _ ?_; try clear hK2 K2
  refine CW.seq fun K3 hK3 => ?_
  refine CW.seq fun K4 hK4 => ?_
  refine CW.region ?_
  refine WL.val (Y.move rfl) (by decide) ?_
  refine WL.val (Y.nilCheck rfl) (by decide) ?_
  refine WL.val (Y.fieldAddr fo_fuguenode3 rfl) (by decide) ?_
  refine WL.val (Y.load1 Try.underlying97 rfl ((hzb.ext hE).mem.fuguenode3) rfl) (by decide) ?_
  refine WL.val (Y.len_slice Try.underlying97 rfl) (by decide) ?_
  refine WL.val (Y.move rfl) (by decide) ?_
  refine WL.nil ?_
  refine hK4 _ _ ?_; try clear hK4 K4
  refine CW.block ?_
  refine CW.loop (X := Nat × Value × List (Nat × Nn)) (fun x => [(0, .pointer (some ⟨gx, 0, none⟩)), (1, .pointer (some ⟨gf, 0, none⟩)), (2, .pointer (some ⟨gt, 0, none⟩)), (3, .pointer (some ⟨gc, 0, none⟩)), (6, .pointer (some ⟨g24, 0, none⟩)), (28, .slice A m c), (29, .int .i64 (m : Int)), (30, .int .i64 (x.1 : Int))]) (fun x w0 => x.1 ≤ m ∧ CpMid wB w w0 ns g gf gt gc g2 rb2 gr ra2 n2 D x.2.2 xe g24 x.2.1 (.slice none 0 0) ((xe.left.take x.1).map (gD x.2.2)) [] ((xe.left.take x.1).flatMap (walkE (Fw.els ns)))) (fun x => m - x.1) (0, .slice none 0 0, D) (by repeat (first | exact Fr.le.nil | refine Fr.le.cons rfl ?_)) ⟨Nat.zero_le _, CpMid.start (w1 := w) hD hE hB24 (by omega)⟩ ?_
  intro x w3 hl3
  obtain ⟨k, u1, Dk⟩ := x
  dsimp only at hl3 ⊢
  obtain ⟨hkm, hM⟩ := hl3
  obtain ⟨v1, hv1⟩ : ∃ v1, v1 = Value.slice none 0 0 := ⟨_, rfl⟩
  rw [← hv1] at hM
  refine CW.seq fun K5 hK5 => ?_
  refine CW.region ?_
  refine WL.val (Y.lss rfl rfl) (by decide) ?_
  refine WL.nil ?_
  refine hK5 _ _ ?_; try clear hK5 K5
  refine CW.seq fun K6 hK6 => ?_
  first | refine CW.condD rfl (fun ht7 => ?_) (fun ht7 => ?_) | refine CW.condND rfl (fun ht7 => ?_) (fun ht7 => ?_) | refine CW.condN rfl (fun ht7 => ?_) (fun ht7 => ?_) | refine CW.cond rfl (fun ht7 => ?_) (fun ht7 => ?_)
  · -- then
    refine CW.skip ?_
    refine hK6 _ _ ?_; try clear hK6 K6
    refine CW.seq fun K8 hK8 => ?_
    refine CW.block ?_
    refine CW.seq fun K9 hK9 => ?_
    obtain ⟨q, hq⟩ : ∃ q, xe.left[k]? = some q := ⟨_, List.getElem?_eq_getElem (by omega)⟩
    have hqm := List.mem_of_getElem? hq
    obtain ⟨a, rfl, hma⟩ := hlg k q hq
    have hnq : ∀ p ∈ Dk, p.1 ∉ walkE (Fw.els ns) q := child_new hG hil (fun j hj => (hM.cover j).1 hj) ((flat_pre hq).trans (by rw [hwk]; exact List.sublist_append_left _ _)) hno
    have hin : ∀ c ∈ xe.left.take k, ∃ p ∈ Dk, p.1 = c := fun c hc => (hM.cover c).2 (.inr (List.mem_flatMap.2 ⟨c, hc, walk_self hG.down (hdn c (.inl (List.mem_of_mem_take hc))).2⟩))
    refine CW.region ?_
    refine WL.val (Y.indexAddrN Try.underlying97 rfl rfl sz0_fuguenode (by omega)) (by decide) ?_
    refine WL.val (Y.load1 Try.underlying42 rfl ((hma.ext hM.cp.ext).cell0) rfl) (by decide) ?_
    refine WL.val (Y.assign rfl) (by decide) ?_
    refine WL.nil ?_
    refine hK9 _ _ ?_; try clear hK9 K9
    refine CW.held (fun wq => Chg (fun k => k ≠ gf) w3 wq) (by kernel_rfl) 13 rfl fun w4 hx4 => ?_
    have hS := Ext.chg (S := fun k => k ≠ gf) hx4
    have hMk := hM.then hx4
    refine RH.take 0 (fun _ _ _ _ h => h) (by kernel_rfl) hS rfl (by kernel_rfl) (by kernel_rfl) (fun wq hq => Y.move rfl) (by decide) ?_
    refine RH.take 1 (fun _ _ _ _ h => h) (by kernel_rfl) hS rfl (by kernel_rfl) (by kernel_rfl) (fun wq hq => Y.move rfl) (by decide) ?_
    refine RH.take 2 (fun _ _ _ _ h => h) (by kernel_rfl) hS rfl (by kernel_rfl) (by kernel_rfl) (fun wq hq => Y.nilCheck rfl) (by decide) ?_
    refine RH.take 3 (fun _ _ _ _ h => h) (by kernel_rfl) hS rfl (by kernel_rfl) (by kernel_rfl) (fun wq hq => Y.fieldAddr fo_fuguenode3 rfl) (by decide) ?_
    refine RH.take 5 (fun _ _ _ _ h => h) (by kernel_rfl) hS rfl (by kernel_rfl) (by kernel_rfl) (fun wq hq => Y.load1 Try.underlying107 rfl (hM.cp.from_.chg hq (fun h => h rfl)).mem.cell0 rfl) (by decide) ?_
    refine RH.take 6 (fun _ _ _ _ h => h) (by kernel_rfl) hS rfl (by kernel_rfl) (by kernel_rfl) (fun wq hq => Y.move rfl) (by decide) ?_
    refine RH.two 4 7 (by kernel_rfl) ?_ ?_
    · skip
      refine RS.val rfl (Y.load1 Try.underlying97 rfl hMk.blk.mem.fuguenode3 rfl) (by decide) ⟨hS, ?_⟩
      refine RH.one 7 (by kernel_rfl) ?_
      refine RS.callV rfl rfl Try.func43 rfl rfl rfl (IH q (.inl hqm) _ _ hMk.cp hnq) (by decide) fun v41 w5 hR5 => ?_
      obtain ⟨X, y, rfl, hX, hyX, hcov, hnew, hc5⟩ := hR5
      have hkne := hMk.kne
      have hS := hS.trans hc5 (fun k _ h => by have h : k = rb2 := h; rw [h]; exact hkne.2.2)
      have hMk := hMk.call hX hcov hnew hc5
      refine ⟨hS, ?_⟩
      refine RH.one 8 (by kernel_rfl) ?_
      refine RS.st rfl (St.buildSlice rfl (bs1_ptr _)) (by decide) fun v42 w6 hR6 => ?_
      obtain ⟨gv, rfl, hgv, hBv, hx6⟩ := hR6
      have hS := hS.thenExt hx6
      have hMk := hMk.then hx6
      refine ⟨hS, ?_⟩
      refine RH.one 9 (by kernel_rfl) ?_
      refine RS.st rfl (St.append (m := 1) (news := ptrL [y.g]) UP UP ai_ptr rfl rfl hMk.own.1 (Fw.Src.one hBv rfl) one_ptrL (by rw [ptrL_length, List.length_map, List.length_take]; omega)) (by decide) fun v43 w7 hR7 => ?_
      obtain ⟨hO7, hc7, hf7⟩ := hR7
      obtain ⟨A7, n7, c7, rfl⟩ := hO7.lens
      have hkne := hMk.kne
      have hS := hS.trans hc7 (fun k _ h => (hkne.1 k (.inl h)).2)
      have hB7 := hMk.blk.chg hc7 (fun h => (hkne.1 _ (.inl h)).1 rfl)
      refine ⟨hS, ?_⟩
      refine RH.take 10 (fun _ _ _ _ h => h) (by kernel_rfl) hS rfl (by kernel_rfl) (by kernel_rfl) (fun wq hq => Y.nilCheck rfl) (by decide) ?_
      refine RH.take 11 (fun _ _ _ _ h => h) (by kernel_rfl) hS rfl (by kernel_rfl) (by kernel_rfl) (fun wq hq => Y.fieldAddr fo_fuguenode3 rfl) (by decide) ?_
      refine RH.one 12 (by kernel_rfl) ?_
      refine RS.store rfl (g := g24) (pre := refC xe.name ++ [bc xe.byte, .bool xe.gone]) (old := [u1]) (post := [v1]) (new := [.slice A7 n7 c7]) rfl (by rw [add_zero', List.length_append, refC_length]; rfl) rfl rfl (by kernel_rfl) (by simpa [nodeC] using hB7) rfl (one1 rfl) (fun w8 hc8 hB8_ => ?_)
      have hS := hS.trans hc8 (fun k _ h => by have h : k = g24 := h; rw [h]; exact hkne.2.1)
      have hM8 := hMk.putL hc7 (by rw [ptrL_app]; exact hO7) hf7 hc8 (by simpa [nodeC] using hB8_)
      refine ⟨hS, ?_⟩
      refine RH.done (by kernel_rfl) ?_
      skip
      refine hK8 _ _ ?_; try clear hK8 K8
      refine CW.region ?_
      refine WL.val (Y.add rfl rfl ⟨by omega, by omega⟩) (by decide) ?_
      refine WL.val (Y.move rfl) (by decide) ?_
      refine WL.nil ?_
      rw [us_step hX.nodup hq hin hyX, ← flat_takeS hq] at hM8
      subst hv1
      exact ⟨(k + 1, .slice A7 n7 c7, Dk ++ X), (by show m - (k + 1) < m - k; omega), (by repeat (first | exact Fr.le.nil | refine Fr.le.cons rfl ?_)), (by show k + 1 ≤ m; omega), hM8⟩
    · skip
      refine RS.callV rfl rfl Try.func43 rfl rfl rfl (IH q (.inl hqm) _ _ hMk.cp hnq) (by decide) fun v41 w9 hR9 => ?_
      obtain ⟨X, y, rfl, hX, hyX, hcov, hnew, hc9⟩ := hR9
      have hkne := hMk.kne
      have hS := hS.trans hc9 (fun k _ h => by have h : k = rb2 := h; rw [h]; exact hkne.2.2)
      have hMk := hMk.call hX hcov hnew hc9
      refine ⟨hS, ?_⟩
      refine RH.two 4 8 (by kernel_rfl) ?_ ?_
      · skip
        refine RS.val rfl (Y.load1 Try.underlying97 rfl hMk.blk.mem.fuguenode3 rfl) (by decide) ⟨hS, ?_⟩
        refine RH.one 8 (by kernel_rfl) ?_
        refine RS.st rfl (St.buildSlice rfl (bs1_ptr _)) (by decide) fun v42 w10 hR10 => ?_
        obtain ⟨gv, rfl, hgv, hBv, hx10⟩ := hR10
        have hS := hS.thenExt hx10
        have hMk := hMk.then hx10
        refine ⟨hS, ?_⟩
        refine RH.one 9 (by kernel_rfl) ?_
        refine RS.st rfl (St.append (m := 1) (news := ptrL [y.g]) UP UP ai_ptr rfl rfl hMk.own.1 (Fw.Src.one hBv rfl) one_ptrL (by rw [ptrL_length, List.length_map, List.length_take]; omega)) (by decide) fun v43 w11 hR11 => ?_
        obtain ⟨hO11, hc11, hf11⟩ := hR11
        obtain ⟨A7, n7, c7, rfl⟩ := hO11.lens
        have hkne := hMk.kne
        have hS := hS.trans hc11 (fun k _ h => (hkne.1 k (.inl h)).2)
        have hB7 := hMk.blk.chg hc11 (fun h => (hkne.1 _ (.inl h)).1 rfl)
        refine ⟨hS, ?_⟩
        refine RH.take 10 (fun _ _ _ _ h => h) (by kernel_rfl) hS rfl (by kernel_rfl) (by kernel_rfl) (fun wq hq => Y.nilCheck rfl) (by decide) ?_
        refine RH.take 11 (fun _ _ _ _ h => h) (by kernel_rfl) hS rfl (by kernel_rfl) (by kernel_rfl) (fun wq hq => Y.fieldAddr fo_fuguenode3 rfl) (by decide) ?_
        refine RH.one 12 (by kernel_rfl) ?_
        refine RS.store rfl (g := g24) (pre := refC xe.name ++ [bc xe.byte, .bool xe.gone]) (old := [u1]) (post := [v1]) (new := [.slice A7 n7 c7]) rfl (by rw [add_zero', List.length_append, refC_length]; rfl) rfl rfl (by kernel_rfl) (by simpa [nodeC] using hB7) rfl (one1 rfl) (fun w12 hc12 hB12_ => ?_)
        have hS := hS.trans hc12 (fun k _ h => by have h : k = g24 := h; rw [h]; exact hkne.2.1)
        have hM8 := hMk.putL hc11 (by rw [ptrL_app]; exact hO11) hf11 hc12 (by simpa [nodeC] using hB12_)
        refine ⟨hS, ?_⟩
        refine RH.done (by kernel_rfl) ?_
        skip
        refine hK8 _ _ ?_; try clear hK8 K8
        refine CW.region ?_
        refine WL.val (Y.add rfl rfl ⟨by omega, by omega⟩) (by decide) ?_
        refine WL.val (Y.move rfl) (by decide) ?_
        refine WL.nil ?_
        rw [us_step hX.nodup hq hin hyX, ← flat_takeS hq] at hM8
        subst hv1
        exact ⟨(k + 1, .slice A7 n7 c7, Dk ++ X), (by show m - (k + 1) < m - k; omega), (by repeat (first | exact Fr.le.nil | refine Fr.le.cons rfl ?_)), (by show k + 1 ≤ m; omega), hM8⟩
      · skip
        refine RS.st rfl (St.buildSlice rfl (bs1_ptr _)) (by decide) fun v42 w13 hR13 => ?_
        obtain ⟨gv, rfl, hgv, hBv, hx13⟩ := hR13
        have hS := hS.thenExt hx13
        have hMk := hMk.then hx13
        refine ⟨hS, ?_⟩
        refine RH.one 4 (by kernel_rfl) ?_
        refine RS.val rfl (Y.load1 Try.underlying97 rfl hMk.blk.mem.fuguenode3 rfl) (by decide) ⟨hS, ?_⟩
        refine RH.one 9 (by kernel_rfl) ?_
        refine RS.st rfl (St.append (m := 1) (news := ptrL [y.g]) UP UP ai_ptr rfl rfl hMk.own.1 (Fw.Src.one hBv rfl) one_ptrL (by rw [ptrL_length, List.length_map, List.length_take]; omega)) (by decide) fun v43 w14 hR14 => ?_
        obtain ⟨hO14, hc14, hf14⟩ := hR14
        obtain ⟨A7, n7, c7, rfl⟩ := hO14.lens
        have hkne := hMk.kne
        have hS := hS.trans hc14 (fun k _ h => (hkne.1 k (.inl h)).2)
        have hB7 := hMk.blk.chg hc14 (fun h => (hkne.1 _ (.inl h)).1 rfl)
        refine ⟨hS, ?_⟩
        refine RH.take 10 (fun _ _ _ _ h => h) (by kernel_rfl) hS rfl (by kernel_rfl) (by kernel_rfl) (fun wq hq => Y.nilCheck rfl) (by decide) ?_
        refine RH.take 11 (fun _ _ _ _ h => h) (by kernel_rfl) hS rfl (by kernel_rfl) (by kernel_rfl) (fun wq hq => Y.fieldAddr fo_fuguenode3 rfl) (by decide) ?_
        refine RH.one 12 (by kernel_rfl) ?_
        refine RS.store rfl (g := g24) (pre := refC xe.name ++ [bc xe.byte, .bool xe.gone]) (old := [u1]) (post := [v1]) (new := [.slice A7 n7 c7]) rfl (by rw [add_zero', List.length_append, refC_length]; rfl) rfl rfl (by kernel_rfl) (by simpa [nodeC] using hB7) rfl (one1 rfl) (fun w15 hc15 hB15_ => ?_)
        have hS := hS.trans hc15 (fun k _ h => by have h : k = g24 := h; rw [h]; exact hkne.2.1)
        have hM8 := hMk.putL hc14 (by rw [ptrL_app]; exact hO14) hf14 hc15 (by simpa [nodeC] using hB15_)
        refine ⟨hS, ?_⟩
        refine RH.done (by kernel_rfl) ?_
        skip
        refine hK8 _ _ ?_; try clear hK8 K8
        refine CW.region ?_
        refine WL.val (Y.add rfl rfl ⟨by omega, by omega⟩) (by decide) ?_
        refine WL.val (Y.move rfl) (by decide) ?_
        refine WL.nil ?_
        rw [us_step hX.nodup hq hin hyX, ← flat_takeS hq] at hM8
        subst hv1
        exact ⟨(k + 1, .slice A7 n7 c7, Dk ++ X), (by show m - (k + 1) < m - k; omega), (by repeat (first | exact Fr.le.nil | refine Fr.le.cons rfl ?_)), (by show k + 1 ≤ m; omega), hM8⟩
  refine CW.exit ?_
  refine hK3 _ _ ?_; try clear hK3 K3
  refine CW.seq fun K10 hK10 => ?_
  refine CW.seq fun K11 hK11 => ?_
  have hke : xe.left.take k = xe.left := List.take_of_length_le (by omega)
  rw [hke] at hM
  have hzb := hz0.ext hM.cp.ext
  refine CW.region ?_
  refine WL.val (Y.move rfl) (by decide) ?_
  refine WL.val (Y.nilCheck rfl) (by decide) ?_
  refine WL.val (Y.fieldAddr fo_fuguenode4 rfl) (by decide) ?_
  refine WL.val (Y.load1 Try.underlying97 rfl ((hzb.ext (Chg.refl : Ext w3 w3)).mem.fuguenode4) rfl) (by decide) ?_
  refine WL.val (Y.len_slice Try.underlying97 rfl) (by decide) ?_
  refine WL.val (Y.move rfl) (by decide) ?_
  refine WL.nil ?_
  refine hK11 _ _ ?_; try clear hK11 K11
  refine CW.block ?_
  refine CW.loop (X := Nat × Value × List (Nat × Nn)) (fun x => [(0, .pointer (some ⟨gx, 0, none⟩)), (1, .pointer (some ⟨gf, 0, none⟩)), (2, .pointer (some ⟨gt, 0, none⟩)), (3, .pointer (some ⟨gc, 0, none⟩)), (6, .pointer (some ⟨g24, 0, none⟩)), (50, .slice A2 m2 c2), (51, .int .i64 (m2 : Int)), (52, .int .i64 (x.1 : Int))]) (fun x w0 => x.1 ≤ m2 ∧ CpMid wB w w0 ns g gf gt gc g2 rb2 gr ra2 n2 D x.2.2 xe g24 u1 x.2.1 (xe.left.map (gD x.2.2)) ((xe.right.take x.1).map (gD x.2.2)) (xe.left.flatMap (walkE (Fw.els ns)) ++ (xe.right.take x.1).flatMap (walkE (Fw.els ns)))) (fun x => m2 - x.1) (0, .slice none 0 0, Dk) (by repeat (first | exact Fr.le.nil | refine Fr.le.cons rfl ?_)) ⟨Nat.zero_le _, by rw [← hv1]; simpa using hM⟩ ?_
  intro x w16 hl16
  subst hv1
  obtain ⟨k, v1, Dk⟩ := x
  dsimp only at hl16 ⊢
  obtain ⟨hkm, hM⟩ := hl16
  refine CW.seq fun K12 hK12 => ?_
  refine CW.region ?_
  refine WL.val (Y.lss rfl rfl) (by decide) ?_
  refine WL.nil ?_
  refine hK12 _ _ ?_; try clear hK12 K12
  refine CW.seq fun K13 hK13 => ?_
  first | refine CW.condD rfl (fun ht14 => ?_) (fun ht14 => ?_) | refine CW.condND rfl (fun ht14 => ?_) (fun ht14 => ?_) | refine CW.condN rfl (fun ht14 => ?_) (fun ht14 => ?_) | refine CW.cond rfl (fun ht14 => ?_) (fun ht14 => ?_)
  · -- then
    refine CW.skip ?_
    refine hK13 _ _ ?_; try clear hK13 K13
    refine CW.seq fun K15 hK15 => ?_
    refine CW.block ?_
    refine CW.seq fun K16 hK16 => ?_
    obtain ⟨q, hq⟩ : ∃ q, xe.right[k]? = some q := ⟨_, List.getElem?_eq_getElem (by omega)⟩
    have hqm := List.mem_of_getElem? hq
    obtain ⟨a, rfl, hma⟩ := hrg k q hq
    have hnq : ∀ p ∈ Dk, p.1 ∉ walkE (Fw.els ns) q := child_new hG hil (fun j hj => (hM.cover j).1 hj) (by rw [hwk, List.append_assoc]; exact List.Sublist.append (List.Sublist.refl _) ((flat_pre hq).trans (List.sublist_cons_self _ _))) hno
    have hin : ∀ c ∈ xe.right.take k, ∃ p ∈ Dk, p.1 = c := fun c hc => (hM.cover c).2 (.inr (List.mem_append_right _ (List.mem_flatMap.2 ⟨c, hc, walk_self hG.down (hdn c (.inr (List.mem_of_mem_take hc))).2⟩)))
    have hlft : ∀ X : List (Nat × Nn), xe.left.map (gD Dk) = xe.left.map (gD (Dk ++ X)) := fun X => List.map_congr_left fun c hc => (gD_app ((hM.cover c).2 (.inr (List.mem_append_left _ (List.mem_flatMap.2 ⟨c, hc, walk_self hG.down (hdn c (.inl hc)).2⟩))))).symm
    refine CW.region ?_
    refine WL.val (Y.indexAddrN Try.underlying97 rfl rfl sz0_fuguenode (by omega)) (by decide) ?_
    refine WL.val (Y.load1 Try.underlying42 rfl ((hma.ext hM.cp.ext).cell0) rfl) (by decide) ?_
    refine WL.val (Y.assign rfl) (by decide) ?_
    refine WL.nil ?_
    refine hK16 _ _ ?_; try clear hK16 K16
    refine CW.held (fun wq => Chg (fun k => k ≠ gf) w16 wq) (by kernel_rfl) 13 rfl fun w17 hx17 => ?_
    have hS := Ext.chg (S := fun k => k ≠ gf) hx17
    have hMk := hM.then hx17
    refine RH.take 0 (fun _ _ _ _ h => h) (by kernel_rfl) hS rfl (by kernel_rfl) (by kernel_rfl) (fun wq hq => Y.move rfl) (by decide) ?_
    refine RH.take 1 (fun _ _ _ _ h => h) (by kernel_rfl) hS rfl (by kernel_rfl) (by kernel_rfl) (fun wq hq => Y.move rfl) (by decide) ?_
    refine RH.take 2 (fun _ _ _ _ h => h) (by kernel_rfl) hS rfl (by kernel_rfl) (by kernel_rfl) (fun wq hq => Y.nilCheck rfl) (by decide) ?_
    refine RH.take 3 (fun _ _ _ _ h => h) (by kernel_rfl) hS rfl (by kernel_rfl) (by kernel_rfl) (fun wq hq => Y.fieldAddr fo_fuguenode4 rfl) (by decide) ?_
    refine RH.take 5 (fun _ _ _ _ h => h) (by kernel_rfl) hS rfl (by kernel_rfl) (by kernel_rfl) (fun wq hq => Y.load1 Try.underlying107 rfl (hM.cp.from_.chg hq (fun h => h rfl)).mem.cell0 rfl) (by decide) ?_
    refine RH.take 6 (fun _ _ _ _ h => h) (by kernel_rfl) hS rfl (by kernel_rfl) (by kernel_rfl) (fun wq hq => Y.move rfl) (by decide) ?_
    refine RH.two 4 7 (by kernel_rfl) ?_ ?_
    · skip
      refine RS.val rfl (Y.load1 Try.underlying97 rfl hMk.blk.mem.fuguenode4 rfl) (by decide) ⟨hS, ?_⟩
      refine RH.one 7 (by kernel_rfl) ?_
      refine RS.callV rfl rfl Try.func43 rfl rfl rfl (IH q (.inr hqm) _ _ hMk.cp hnq) (by decide) fun v63 w18 hR18 => ?_
      obtain ⟨X, y, rfl, hX, hyX, hcov, hnew, hc18⟩ := hR18
      have hkne := hMk.kne
      have hS := hS.trans hc18 (fun k _ h => by have h : k = rb2 := h; rw [h]; exact hkne.2.2)
      have hMk := hMk.call hX hcov hnew hc18
      refine ⟨hS, ?_⟩
      refine RH.one 8 (by kernel_rfl) ?_
      refine RS.st rfl (St.buildSlice rfl (bs1_ptr _)) (by decide) fun v64 w19 hR19 => ?_
      obtain ⟨gv, rfl, hgv, hBv, hx19⟩ := hR19
      have hS := hS.thenExt hx19
      have hMk := hMk.then hx19
      refine ⟨hS, ?_⟩
      refine RH.one 9 (by kernel_rfl) ?_
      refine RS.st rfl (St.append (m := 1) (news := ptrL [y.g]) UP UP ai_ptr rfl rfl hMk.own.2 (Fw.Src.one hBv rfl) one_ptrL (by rw [ptrL_length, List.length_map, List.length_take]; omega)) (by decide) fun v65 w20 hR20 => ?_
      obtain ⟨hO20, hc20, hf20⟩ := hR20
      obtain ⟨A7, n7, c7, rfl⟩ := hO20.lens
      have hkne := hMk.kne
      have hS := hS.trans hc20 (fun k _ h => (hkne.1 k (.inr h)).2)
      have hB7 := hMk.blk.chg hc20 (fun h => (hkne.1 _ (.inr h)).1 rfl)
      refine ⟨hS, ?_⟩
      refine RH.take 10 (fun _ _ _ _ h => h) (by kernel_rfl) hS rfl (by kernel_rfl) (by kernel_rfl) (fun wq hq => Y.nilCheck rfl) (by decide) ?_
      refine RH.take 11 (fun _ _ _ _ h => h) (by kernel_rfl) hS rfl (by kernel_rfl) (by kernel_rfl) (fun wq hq => Y.fieldAddr fo_fuguenode4 rfl) (by decide) ?_
      refine RH.one 12 (by kernel_rfl) ?_
      refine RS.store rfl (g := g24) (pre := refC xe.name ++ [bc xe.byte, .bool xe.gone, u1]) (old := [v1]) (post := []) (new := [.slice A7 n7 c7]) rfl (by rw [add_zero', List.length_append, refC_length]; rfl) rfl rfl (by kernel_rfl) (by simpa [nodeC] using hB7) rfl (one1 rfl) (fun w21 hc21 hB21_ => ?_)
      have hS := hS.trans hc21 (fun k _ h => by have h : k = g24 := h; rw [h]; exact hkne.2.1)
      have hM8 := hMk.putR hc20 (by rw [ptrL_app]; exact hO20) hf20 hc21 (by simpa [nodeC] using hB21_)
      refine ⟨hS, ?_⟩
      refine RH.done (by kernel_rfl) ?_
      skip
      refine hK15 _ _ ?_; try clear hK15 K15
      refine CW.region ?_
      refine WL.val (Y.add rfl rfl ⟨by omega, by omega⟩) (by decide) ?_
      refine WL.val (Y.move rfl) (by decide) ?_
      refine WL.nil ?_
      rw [us_step hX.nodup hq hin hyX, hlft X, List.append_assoc, ← flat_takeS hq] at hM8
      exact ⟨(k + 1, .slice A7 n7 c7, Dk ++ X), (by show m2 - (k + 1) < m2 - k; omega), (by repeat (first | exact Fr.le.nil | refine Fr.le.cons rfl ?_)), (by show k + 1 ≤ m2; omega), hM8⟩
    · skip
      refine RS.callV rfl rfl Try.func43 rfl rfl rfl (IH q (.inr hqm) _ _ hMk.cp hnq) (by decide) fun v63 w22 hR22 => ?_
      obtain ⟨X, y, rfl, hX, hyX, hcov, hnew, hc22⟩ := hR22
      have hkne := hMk.kne
      have hS := hS.trans hc22 (fun k _ h => by have h : k = rb2 := h; rw [h]; exact hkne.2.2)
      have hMk := hMk.call hX hcov hnew hc22
      refine ⟨hS, ?_⟩
      refine RH.two 4 8 (by kernel_rfl) ?_ ?_
      · skip
        refine RS.val rfl (Y.load1 Try.underlying97 rfl hMk.blk.mem.fuguenode4 rfl) (by decide) ⟨hS, ?_⟩
        refine RH.one 8 (by kernel_rfl) ?_
        refine RS.st rfl (St.buildSlice rfl (bs1_ptr _)) (by decide) fun v64 w23 hR23 => ?_
        obtain ⟨gv, rfl, hgv, hBv, hx23⟩ := hR23
        have hS := hS.thenExt hx23
        have hMk := hMk.then hx23
        refine ⟨hS, ?_⟩
        refine RH.one 9 (by kernel_rfl) ?_
        refine RS.st rfl (St.append (m := 1) (news := ptrL [y.g]) UP UP ai_ptr rfl rfl hMk.own.2 (Fw.Src.one hBv rfl) one_ptrL (by rw [ptrL_length, List.length_map, List.length_take]; omega)) (by decide) fun v65 w24 hR24 => ?_
        obtain ⟨hO24, hc24, hf24⟩ := hR24
        obtain ⟨A7, n7, c7, rfl⟩ := hO24.lens
        have hkne := hMk.kne
        have hS := hS.trans hc24 (fun k _ h => (hkne.1 k (.inr h)).2)
        have hB7 := hMk.blk.chg hc24 (fun h => (hkne.1 _ (.inr h)).1 rfl)
        refine ⟨hS, ?_⟩
        refine RH.take 10 (fun _ _ _ _ h => h) (by kernel_rfl) hS rfl (by kernel_rfl) (by kernel_rfl) (fun wq hq => Y.nilCheck rfl) (by decide) ?_
        refine RH.take 11 (fun _ _ _ _ h => h) (by kernel_rfl) hS rfl (by kernel_rfl) (by kernel_rfl) (fun wq hq => Y.fieldAddr fo_fuguenode4 rfl) (by decide) ?_
        refine RH.one 12 (by kernel_rfl) ?_
        refine RS.store rfl (g := g24) (pre := refC xe.name ++ [bc xe.byte, .bool xe.gone, u1]) (old := [v1]) (post := []) (new := [.slice A7 n7 c7]) rfl (by rw [add_zero', List.length_append, refC_length]; rfl) rfl rfl (by kernel_rfl) (by simpa [nodeC] using hB7) rfl (one1 rfl) (fun w25 hc25 hB25_ => ?_)
        have hS := hS.trans hc25 (fun k _ h => by have h : k = g24 := h; rw [h]; exact hkne.2.1)
        have hM8 := hMk.putR hc24 (by rw [ptrL_app]; exact hO24) hf24 hc25 (by simpa [nodeC] using hB25_)
        refine ⟨hS, ?_⟩
        refine RH.done (by kernel_rfl) ?_
        skip
        refine hK15 _ _ ?_; try clear hK15 K15
        refine CW.region ?_
        refine WL.val (Y.add rfl rfl ⟨by omega, by omega⟩) (by decide) ?_
        refine WL.val (Y.move rfl) (by decide) ?_
        refine WL.nil ?_
        rw [us_step hX.nodup hq hin hyX, hlft X, List.append_assoc, ← flat_takeS hq] at hM8
        exact ⟨(k + 1, .slice A7 n7 c7, Dk ++ X), (by show m2 - (k + 1) < m2 - k; omega), (by repeat (first | exact Fr.le.nil | refine Fr.le.cons rfl ?_)), (by show k + 1 ≤ m2; omega), hM8⟩
      · skip
        refine RS.st rfl (St.buildSlice rfl (bs1_ptr _)) (by decide) fun v64 w26 hR26 => ?_
        obtain ⟨gv, rfl, hgv, hBv, hx26⟩ := hR26
        have hS := hS.thenExt hx26
        have hMk := hMk.then hx26
        refine ⟨hS, ?_⟩
        refine RH.one 4 (by kernel_rfl) ?_
        refine RS.val rfl (Y.load1 Try.underlying97 rfl hMk.blk.mem.fuguenode4 rfl) (by decide) ⟨hS, ?_⟩
        refine RH.one 9 (by kernel_rfl) ?_
        refine RS.st rfl (St.append (m := 1) (news := ptrL [y.g]) UP UP ai_ptr rfl rfl hMk.own.2 (Fw.Src.one hBv rfl) one_ptrL (by rw [ptrL_length, List.length_map, List.length_take]; omega)) (by decide) fun v65 w27 hR27 => ?_
        obtain ⟨hO27, hc27, hf27⟩ := hR27
        obtain ⟨A7, n7, c7, rfl⟩ := hO27.lens
        have hkne := hMk.kne
        have hS := hS.trans hc27 (fun k _ h => (hkne.1 k (.inr h)).2)
        have hB7 := hMk.blk.chg hc27 (fun h => (hkne.1 _ (.inr h)).1 rfl)
        refine ⟨hS, ?_⟩
        refine RH.take 10 (fun _ _ _ _ h => h) (by kernel_rfl) hS rfl (by kernel_rfl) (by kernel_rfl) (fun wq hq => Y.nilCheck rfl) (by decide) ?_
        refine RH.take 11 (fun _ _ _ _ h => h) (by kernel_rfl) hS rfl (by kernel_rfl) (by kernel_rfl) (fun wq hq => Y.fieldAddr fo_fuguenode4 rfl) (by decide) ?_
        refine RH.one 12 (by kernel_rfl) ?_
        refine RS.store rfl (g := g24) (pre := refC xe.name ++ [bc xe.byte, .bool xe.gone, u1]) (old := [v1]) (post := []) (new := [.slice A7 n7 c7]) rfl (by rw [add_zero', List.length_append, refC_length]; rfl) rfl rfl (by kernel_rfl) (by simpa [nodeC] using hB7) rfl (one1 rfl) (fun w28 hc28 hB28_ => ?_)
        have hS := hS.trans hc28 (fun k _ h => by have h : k = g24 := h; rw [h]; exact hkne.2.1)
        have hM8 := hMk.putR hc27 (by rw [ptrL_app]; exact hO27) hf27 hc28 (by simpa [nodeC] using hB28_)
        refine ⟨hS, ?_⟩
        refine RH.done (by kernel_rfl) ?_
        skip
        refine hK15 _ _ ?_; try clear hK15 K15
        refine CW.region ?_
        refine WL.val (Y.add rfl rfl ⟨by omega, by omega⟩) (by decide) ?_
        refine WL.val (Y.move rfl) (by decide) ?_
        refine WL.nil ?_
        rw [us_step hX.nodup hq hin hyX, hlft X, List.append_assoc, ← flat_takeS hq] at hM8
        exact ⟨(k + 1, .slice A7 n7 c7, Dk ++ X), (by show m2 - (k + 1) < m2 - k; omega), (by repeat (first | exact Fr.le.nil | refine Fr.le.cons rfl ?_)), (by show k + 1 ≤ m2; omega), hM8⟩
  refine CW.exit ?_
  refine hK10 _ _ ?_; try clear hK10 K10
  have hke : xe.right.take k = xe.right := List.take_of_length_le (by omega)
  rw [hke] at hM
  have hzb := hz0.ext hM.cp.ext
  obtain ⟨z0, hz0i⟩ : ∃ z0, ns[0]? = some z0 := ⟨_, List.getElem?_eq_getElem (by have := hG.pos; rw [List.length_map] at this; exact this)⟩
  have hr0 := (hT.node 0 z0 hz0i).ext hM.cp.ext
  have htr := (hT.blk.ext hM.cp.ext)
  rw [gOf_at hz0i] at htr
  have hnoe : mfind BE.k xe.name (entD Dk) 0 = none := by
    cases hf : mfind BE.k xe.name (entD Dk) 0 with
    | none => rfl
    | some p =>
      obtain ⟨_, hj, hkk⟩ := mfind_some hf
      obtain ⟨q, hq, _, hqn, _⟩ := entD_mem (List.mem_of_getElem? hj)
      obtain ⟨zq, hzq, hqe, _⟩ := hM.cp.node q hq
      have := hG.inj (i := q.1) (j := i) (x := zq.el) (y := xe) (by rw [List.getElem?_map, hzq]; rfl) hze (by rw [← hqe, hqn, hkk])
      exfalso
      rcases (hM.cover q.1).1 ⟨q, hq, rfl⟩ with ⟨q', hq', he⟩ | hd
      · exact hno q' hq' (by rw [he, this]; exact walk_self hG.down hil)
      · have hnd := walk_nodup hG i hil
        rw [hwk, List.nodup_append] at hnd
        rw [this] at hd
        rcases List.mem_append.1 hd with hd | hd
        · exact hnd.2.2 i hd i (by simp) rfl
        · exact (List.nodup_cons.1 hnd.2.1).1 hd
  refine CW.seq_to (X := Unit) (fun _ => [(0, .pointer (some ⟨gx, 0, none⟩)), (1, .pointer (some ⟨gf, 0, none⟩)), (2, .pointer (some ⟨gt, 0, none⟩)), (3, .pointer (some ⟨gc, 0, none⟩)), (6, .pointer (some ⟨g24, 0, none⟩))]) (fun _ wj => ∃ X y, Value.pointer (some ⟨g24, 0, none⟩) = .pointer (some ⟨y.g, 0, none⟩) ∧ CpAt wB wj ns g gf gt gc g2 rb2 gr ra2 n2 (D ++ X) ∧ (i, y) ∈ X ∧ (∀ j, (∃ p ∈ X, p.1 = j) ↔ j ∈ walkE (Fw.els ns) i) ∧ (∀ p ∈ X, w.heap.size ≤ p.2.g ∧ ∀ (s : Bool) (k : Nat), (p.2.sv s).ownBlock = some k → w.heap.size ≤ k) ∧ Chg (fun k => k = rb2) w wj) ?_ ?_
  · skip
    refine CW.seq fun K18 hK18 => ?_
    refine CW.region ?_
    refine WL.val (Y.move rfl) (by decide) ?_
    refine WL.val (Y.load1 Try.underlying23 rfl hM.cp.tbox.mem.cell0 rfl) (by decide) ?_
    refine WL.val (Y.nilCheck rfl) (by decide) ?_
    refine WL.val (Y.fieldAddr fo_fugueTree0 rfl) (by decide) ?_
    refine WL.val (Y.load1 Try.underlying42 rfl htr.mem.fugueTree0 rfl) (by decide) ?_
    refine WL.val (Y.neq_node2 hzb hr0 rfl rfl) (by decide) ?_
    refine WL.nil ?_
    refine hK18 _ _ ?_; try clear hK18 K18
    first | refine CW.condD rfl (fun ht19 => ?_) (fun ht19 => ?_) | refine CW.condND rfl (fun ht19 => ?_) (fun ht19 => ?_) | refine CW.condN rfl (fun ht19 => ?_) (fun ht19 => ?_) | refine CW.cond rfl (fun ht19 => ?_) (fun ht19 => ?_)
    · -- then
      refine CW.head 9 (by kernel_rfl) (by kernel_rfl) fun w29 hx29 => ?_
      skip; have hz29 := hx29.size; have hMk := hM.then hx29
      refine HL.val (Y.load1 Try.underlying23 rfl ((hM.cp.then hx29).cbox.mem.cell0) rfl) (by decide) ?_
      refine HL.val (Y.nilCheck rfl) (by decide) ?_
      refine HL.val (Y.fieldAddr fo_fugueTree1 rfl) (by decide) ?_
      refine HL.val (Y.load1 Try.underlying43 rfl ((hM.cp.then hx29).tree.mem.fugueTree1) rfl) (by decide) ?_
      refine HL.val (Y.move rfl) (by decide) ?_
      refine HL.val (Y.nilCheck rfl) (by decide) ?_
      refine HL.val (Y.fieldAddr fo_fuguenode0 rfl) (by decide) ?_
      refine HL.val (Y.load Try.underlying61 rfl hMk.blk.mem.fuguenode0 (sz_apiRef _) rfl) (by decide) ?_
      refine HL.val (Y.move rfl) (by decide) ?_
      refine HL.nil ?_
      refine WL.su (Su.mapNew (b := (⟨xe.name, g24, (entD Dk).length⟩ : BE)) keyRef (fun _ => rfl) UMB rfl rfl rfl (hM.cp.then hx29).map hnoe rfl) fun w30 hR30 => ?_
      obtain ⟨hM30, hc30⟩ := hR30
      refine WL.nil ?_
      have hi0 : i ≠ 0 := fun e => by
        subst e
        have e2 := Option.some.inj (hzi0.symm.trans hz0i)
        have e3 : gx = z0.g := by rw [← e2]
        exact absurd e3 (by assumption)
      exact ⟨(), (by repeat (first | exact Fr.le.nil | refine Fr.le.cons rfl ?_)), CpMid.fin hG hzi0 rfl (hM.then hx29) hno hc30 (by rw [entD_one hi0, List.length_append]; exact hM30)⟩
 
    refine CW.skip ?_
    have hi0 : i = 0 := hT.inj i 0 _ z0 hzi0 hz0i (by simp_all)
    subst hi0
    exact ⟨(), (by repeat (first | exact Fr.le.nil | refine Fr.le.cons rfl ?_)), CpMid.fin hG hzi0 rfl hM hno Chg.refl (by rw [entD_root]; exact hM.cp.map)⟩
  rintro u w31 hj31
  have hfin := hj31
  refine CW.seq fun K20 hK20 => ?_
  refine CW.region ?_
  refine WL.val (Y.move rfl) (by decide) ?_
  refine WL.val (Y.assign rfl) (by decide) ?_
  refine WL.nil ?_
  refine hK20 _ _ ?_; try clear hK20 K20
  refine CW.ret ⟨_, rfl, ?_⟩
  exact hfin
end Go.Proofs.Ytmndofgagngcgaa
