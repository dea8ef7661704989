/- Parts of a proof: what its last text leans on. No condition. -/
import Derived.Test.YtmehkigmnpjcjaaDoorK18
import Derived.Test.YtmehkigmnpjcjaaDoorK19
import Derived.Test.YtmehkigmnpjcjaaDoorK23
set_option linter.unusedSimpArgs false
set_option linter.unusedVariables false
/- Fugue's tree: an element's copy, walked. No condition. -/
namespace Go.Proofs.YtmehkigmnpjcjaaDoor
open Go.RowKit Go.Fw Go.Fu Go.Pl
theorem build_node3 (r : RefD) (b : UInt8) (gn : Bool) (w : World) : (Instr.build TN [(0, refV r), (1, Value.int .u8 (b.toNat : Int)), (2, Value.bool gn)].toArray).run Tryd.prog w = .ok (.agg (nodeC ⟨r, b, gn, [], []⟩ (.slice none 0 0) (.slice none 0 0)).toArray) w := run_build w _ _ _ (by
 have hb : ∀ parts, Tryd.prog.built TN parts = Instr.fill (fun i => #[(0, 34), (34, 1), (35, 1), (36, 1), (37, 1)][i]?) (nodeC ⟨RefD.zero, 0, false, [], []⟩ (.slice none 0 0) (.slice none 0 0)).toArray parts := fun parts => by kernel_rfl
 show Tryd.prog.built _ [(0, refV r), (1, Value.int .u8 (b.toNat : Int)), (2, Value.bool gn)] = _
 rw [hb]
 have e0 : nodeC ⟨RefD.zero, 0, false, [], []⟩ (.slice none 0 0) (.slice none 0 0) = [] ++ refC RefD.zero ++ [bc 0, .bool false, .slice none 0 0, .slice none 0 0] := rfl
 rw [e0, fill_step [] (refC RefD.zero) [bc 0, .bool false, .slice none 0 0, .slice none 0 0] (refC r) (by rw [refC_length]; rfl) rfl (by rw [refC_length, refC_length]) rfl]
 have e1 : [] ++ refC r ++ [bc 0, .bool false, .slice none 0 0, .slice none 0 0] = refC r ++ [bc 0] ++ [.bool false, .slice none 0 0, .slice none 0 0] := by simp
 rw [e1, fill_step (refC r) [bc 0] [.bool false, .slice none 0 0, .slice none 0 0] [.int .u8 (b.toNat : Int)] rfl rfl rfl (refC_length r)]
 have e2 : refC r ++ [Value.int .u8 (b.toNat : Int)] ++ [Value.bool false, .slice none 0 0, .slice none 0 0] = (refC r ++ [Value.int .u8 (b.toNat : Int)]) ++ [Value.bool false] ++ [Value.slice none 0 0, .slice none 0 0] := by simp
 rw [e2, fill_step (refC r ++ [Value.int .u8 (b.toNat : Int)]) [Value.bool false] [Value.slice none 0 0, .slice none 0 0] [Value.bool gn] rfl rfl rfl (by rw [List.length_append, refC_length]; rfl), Instr.fill]
 simp [nodeC, bc])
section
variable {n : NN} {fr : Fr} {w : World} {ty : TypeId} {x y : Operand} {t' : TypeId}
theorem Y.neq_node2 {a b : Nat} {ca cb : List Value} (ha : Blk w a TN ca) (hb : Blk w b TN cb) (hx : ev fr x = some (.pointer (some ⟨a, 0, none⟩))) (hy : ev fr y = some (.pointer (some ⟨b, 0, none⟩))) : Yw Tryd.prog n fr (.binOp .neq TP x y t') ty w (.bool (!decide (a = b))) w := by
 obtain ⟨j, hj, hjs⟩ : ∃ j : TypeInfo, Tryd.prog.info? TN = some j ∧ j.size = 38 := by
  have := szN
  obtain ⟨j, hj, h⟩ := Option.map_eq_some_iff.1 this
  exact ⟨j, hj, h⟩
 refine Y.bin hx hy (by simp [eqGuard]) ?_
 have h : ∀ d : Nat, (Op.equalIn (d + 1) TP (.pointer (some ⟨a, 0, none⟩)) (.pointer (some ⟨b, 0, none⟩))).run Tryd.prog w = .ok (decide (a = b)) w := fun d => by
  by_cases e : a = b
  ·
   subst e; simp [Op.equalIn, run_underlying Tryd.underlying101, sizeOf, typeInfo, hj, run_sameAddr_same]
  ·
   have hne : (⟨a, 0, none⟩ : Addr) ≠ ⟨b, 0, none⟩ := fun h => e (by injection h)
   have := run_sameAddr_other (P := Tryd.prog) w hne (ha : w.heap[(⟨a, 0, none⟩ : Addr).block]? = _) (hb : w.heap[(⟨b, 0, none⟩ : Addr).block]? = _)
   simp [Op.equalIn, run_underlying Tryd.underlying101, sizeOf, typeInfo, hj, hjs, this, e]
 simp only [binOp]
 simp [Op.equal, Op.maxDepth, h 9999]
end
theorem CpMid.kne {w0 w wj : World} {ns : List Nn} {g gf gt gc g2 rb2 gr ra2 n2 : Nat} {D Dk : List (Nat × Nn)} {el : El} {gm : Nat} {u v : Value} {us vs done : List Nat} (h : CpMid w0 w wj ns g gf gt gc g2 rb2 gr ra2 n2 D Dk el gm u v us vs done) : (∀ k, u.ownBlock = some k ∨ v.ownBlock = some k → k ≠ gm ∧ k ≠ gf) ∧ gm ≠ gf ∧ rb2 ≠ gf := by
 refine ⟨fun k hk => ⟨?_, ?_⟩, ?_, ?_⟩
 ·
  rintro rfl
  rcases hk with hk | hk
  ·
   obtain ⟨_, _, hb⟩ := h.own.1.kind hk; exact absurd (blk_kind hb h.blk) de_
  ·
   obtain ⟨_, _, hb⟩ := h.own.2.kind hk; exact absurd (blk_kind hb h.blk) de_
 ·
  rintro rfl
  rcases hk with hk | hk
  ·
   obtain ⟨_, _, hb⟩ := h.own.1.kind hk; exact absurd (blk_kind hb h.cp.from_) de_
  ·
   obtain ⟨_, _, hb⟩ := h.own.2.kind hk; exact absurd (blk_kind hb h.cp.from_) de_
 ·
  rintro rfl; exact absurd (blk_kind h.blk h.cp.from_) de_
 ·
  rintro rfl; exact blk_map h.cp.from_ h.cp.map
theorem us_step {l : List Nat} {Dk X : List (Nat × Nn)} {k q : Nat} {y : Nn} (hn : ((Dk ++ X).map (·.1)).Nodup) (hq : l[k]? = some q) (hin : ∀ c ∈ l.take k, ∃ p ∈ Dk, p.1 = c) (hy : (q, y) ∈ X) : (l.take k).map (gD Dk) ++ [y.g] = (l.take (k + 1)).map (gD (Dk ++ X)) := by
 rw [List.take_add_one, hq, List.map_append]
 congr 1
 ·
  exact List.map_congr_left fun c hc => (gD_app (hin c hc)).symm
 ·
  have := gD_mem hn (p := (q, y)) (by simp [hy])
  simpa using this.symm
theorem child_new {e : List El} (hG : Fu.Good e) {i q : Nat} (hil : i < e.length) {D Dk : List (Nat × Nn)} {done : List Nat} (hcov : ∀ j, (∃ p ∈ Dk, p.1 = j) → (∃ p ∈ D, p.1 = j) ∨ j ∈ done) (hsub : (done ++ walkE e q).Sublist (walkE e i)) (hno : ∀ p ∈ D, p.1 ∉ walkE e i) : ∀ p ∈ Dk, p.1 ∉ walkE e q := fun p hp hpq => by
 rcases hcov p.1 ⟨p, hp, rfl⟩ with ⟨p', hp', he⟩ | hd
 ·
  exact hno p' hp' (by rw [he]; exact hsub.subset (List.mem_append_right _ hpq))
 ·
  have := List.nodup_append.1 (List.Nodup.sublist hsub (walk_nodup hG i hil))
  exact this.2.2 p.1 hd p.1 hpq rfl
theorem walk_self {e : List El} (h : Down e) {c : Nat} (hc : c < e.length) : c ∈ walkE e c := by
 obtain ⟨x, hx⟩ : ∃ x, e[c]? = some x := ⟨_, List.getElem?_eq_getElem hc⟩
 rw [walkE_eq h hx]; simp
theorem flat_pre {l : List Nat} {f : Nat → List Nat} {k c : Nat} (h : l[k]? = some c) : ((l.take k).flatMap f ++ f c).Sublist (l.flatMap f) := by
 rw [← flat_takeS h]
 have h2 : l.flatMap f = (l.take (k + 1)).flatMap f ++ (l.drop (k + 1)).flatMap f := by rw [← List.flatMap_append, List.take_append_drop]
 rw [h2]; exact List.sublist_append_left _ _
set_option maxRecDepth 100000 in
set_option maxHeartbeats 4000000 in
theorem fcopy1_step (g rb ra : Nat) (ad : List Dig) (ns : List Nn) (gf gt gc g2 rb2 gr ra2 n2 i : Nat) (z : Nn) (wB w : World) (D : List (Nat × Nn)) (hT : FtAt wB g rb ra ad ns) (hG : Fu.Good (Fw.els ns)) (hn : ns.length ≤ 400001) (hzi : ns[i]? = some z) (IH : ∀ c, c ∈ z.el.left ∨ c ∈ z.el.right → CpOk wB ns g gf gt gc g2 rb2 gr ra2 n2 c) (hD : CpAt wB w ns g gf gt gc g2 rb2 gr ra2 n2 D) (hno : ∀ p ∈ D, p.1 ∉ walkE (Fw.els ns) i) : Calls Tryd.prog 52 #[.pointer (some ⟨gOf ns i, 0, none⟩), .pointer (some ⟨gf, 0, none⟩), .pointer (some ⟨gt, 0, none⟩), .pointer (some ⟨gc, 0, none⟩)] w (Ret fun r w' => ∃ X y, r = .pointer (some ⟨y.g, 0, none⟩) ∧ CpAt wB w' ns g gf gt gc g2 rb2 gr ra2 n2 (D ++ X) ∧ (i, y) ∈ X ∧ (∀ j, (∃ p ∈ X, p.1 = j) ↔ j ∈ walkE (Fw.els ns) i) ∧ (∀ p ∈ X, w.heap.size ≤ p.2.g ∧ ∀ (s : Bool) (k : Nat), (p.2.sv s).ownBlock = some k → w.heap.size ≤ k) ∧ Chg (fun k => k = rb2) w w') := by
 rw [gOf_at hzi]
 have hzi0 := hzi
 have hkb1 := (hT.kidsBs hG hzi true).2.2.1
 have hkb2 := (hT.kidsBs hG hzi false).2.2.1
 obtain ⟨xe, gx, lv, rv⟩ := z
 have hze : (Fw.els ns)[i]? = some xe := by rw [List.getElem?_map, hzi]; rfl
 have hil := (List.getElem?_eq_some_iff.1 hze).1
 have hkl : Own wB TP 1 lv (ptrL (xe.left.map (gOf ns))) := hT.kids i _ true hzi
 have hkr : Own wB TP 1 rv (ptrL (xe.right.map (gOf ns))) := hT.kids i _ false hzi
 have hz0 : Blk wB gx TN (nodeC xe lv rv) := hT.node i _ hzi
 have hwk := walkE_eq hG.down hze
 have hdn := hG.down i xe hze
 dsimp only at IH ⊢
 obtain ⟨A, m, c, rfl⟩ := hkl.lens
 obtain ⟨A2, m2, c2, rfl⟩ := hkr.lens
 obtain ⟨hlm, hlg⟩ := ptr_map hkl
 obtain ⟨hrm, hrg⟩ := ptr_map hkr
 have hcm := (hkl.mem A m c rfl).2.2.2
 have hcm2 := (hkr.mem A2 m2 c2 rfl).2.2.2
 unfold maxLen at hcm hcm2
 have hm1 : m ≤ 400001 := by rw [List.length_map] at hkb1; have : xe.left.length ≤ ns.length := hkb1; omega
 have hm2 : m2 ≤ 400001 := by rw [List.length_map] at hkb2; have : xe.right.length ≤ ns.length := hkb2; omega
 have hzb := hz0.ext hD.ext
 refine calls_of_CW 85 [5] [(0, .pointer (some ⟨gx, 0, none⟩)), (1, .pointer (some ⟨gf, 0, none⟩)), (2, .pointer (some ⟨gt, 0, none⟩)), (3, .pointer (some ⟨gc, 0, none⟩))] Tryd.func52 rfl rfl rfl (by simp) args4 ?_
 have hE : Ext w w := Chg.refl
 refine CW.sr fun K1 hK1 => ?_
 refine WL.a rfl ?_
 refine WL.nil (hK1 _ _ ?_); try clear hK1
 refine CW.seq fun K2 hK2 => ?_
 refine CW.head 13 kr_ kr_ fun w1 hx1 => ?_
 skip; have hz1 := hx1.size; have hE := hE.thenExt hx1
 refine HL.val (Y.move rfl) de_ ?_
 refine HL.val (Y.nilCheck rfl) de_ ?_
 refine HL.val (Y.fieldAddr fo_fuguenode0 rfl) de_ ?_
 refine HL.val (Y.load Tryd.underlying60 rfl ((hzb.ext hE).mem.fuguenode0) (sz_apiRef _) rfl) de_ ?_
 refine HL.val (Y.move rfl) de_ ?_
 refine HL.val (Y.nilCheck rfl) de_ ?_
 refine HL.val (Y.fieldAddr fo_fuguenode1 rfl) de_ ?_
 refine HL.val (Y.load1 Tryd.underlying5 rfl ((hzb.ext hE).mem.fuguenode1) rfl) de_ ?_
 refine HL.val (Y.move rfl) de_ ?_
 refine HL.val (Y.nilCheck rfl) de_ ?_
 refine HL.val (Y.fieldAddr fo_fuguenode2 rfl) de_ ?_
 refine HL.val (Y.load1 Tryd.underlying4 rfl ((hzb.ext hE).mem.fuguenode2) rfl) de_ ?_
 refine HL.val (Y.build rfl (build_node3 _ _ _ _)) de_ ?_
 refine HL.nil ?_
 refine WL.box rfl rfl de_ fun g24 w2 hx2 hg24 hB24 => ?_
 have hlt24 := hB24.lt; have hz2 := hx2.size
 have hM24 := hB24.mem; have hz2 := hx2.size; have hE := hE.thenExt hx2
 refine WL.a rfl ?_
 refine WL.nil (hK2 _ _ ?_); try clear hK2
 refine CW.seq fun K3 hK3 => ?_
 refine CW.sr fun K4 hK4 => ?_
 refine WL.m rfl ?_
 refine WL.v (Y.nilCheck rfl) ?_
 refine WL.v (Y.fieldAddr fo_fuguenode3 rfl) ?_
 refine WL.v (Y.load1 Tryd.underlying102 rfl ((hzb.ext hE).mem.fuguenode3) rfl) ?_
 refine WL.v (Y.len_slice Tryd.underlying102 rfl) ?_
 refine WL.m rfl ?_
 refine WL.nil (hK4 _ _ ?_); try clear hK4
 refine CW.block ?_
 refine CW.loop (X := Nat × Value × List (Nat × Nn)) (fun x => [(0, .pointer (some ⟨gx, 0, none⟩)), (1, .pointer (some ⟨gf, 0, none⟩)), (2, .pointer (some ⟨gt, 0, none⟩)), (3, .pointer (some ⟨gc, 0, none⟩)), (6, .pointer (some ⟨g24, 0, none⟩)), (28, .slice A m c), (29, .int .i64 (m : Int)), (30, .int .i64 (x.1 : Int))]) (fun x w0 => x.1 ≤ m ∧ CpMid wB w w0 ns g gf gt gc g2 rb2 gr ra2 n2 D x.2.2 xe g24 x.2.1 (.slice none 0 0) ((xe.left.take x.1).map (gD x.2.2)) [] ((xe.left.take x.1).flatMap (walkE (Fw.els ns)))) (fun x => m - x.1) (0, .slice none 0 0, D) Fr.ok ⟨Nat.zero_le _, CpMid.start (w1 := w) hD hE hB24 om_⟩ ?_
 intro x w3 hl3
 obtain ⟨k, u1, Dk⟩ := x
 dsimp only at hl3 ⊢
 obtain ⟨hkm, hM⟩ := hl3
 obtain ⟨v1, hv1⟩ : ∃ v1, v1 = Value.slice none 0 0 := ⟨_, rfl⟩
 rw [← hv1] at hM
 refine CW.sr fun K5 hK5 => ?_
 refine WL.v (Y.lss rfl rfl) ?_
 refine WL.nil (hK5 _ _ ?_); try clear hK5
 refine CW.seq fun K6 hK6 => ?_
 (first | refine cd_ rfl ?_ ?_ | refine ce_ rfl ?_ ?_ | refine cn_ rfl ?_ ?_ | refine cb_ rfl ?_ ?_) <;> intro ht7
 ·
  -- then
  refine CW.skip ?_
  refine hK6 _ _ ?_; try clear hK6
  refine CW.seq fun K8 hK8 => ?_
  refine CW.block ?_
  refine CW.seq fun K9 hK9 => ?_
  obtain ⟨q, hq⟩ : ∃ q, xe.left[k]? = some q := ⟨_, List.getElem?_eq_getElem om_⟩
  have hqm := List.mem_of_getElem? hq
  obtain ⟨a, rfl, hma⟩ := hlg k q hq
  have hnq : ∀ p ∈ Dk, p.1 ∉ walkE (Fw.els ns) q := child_new hG hil (fun j hj => (hM.cover j).1 hj) ((flat_pre hq).trans (by rw [hwk]; exact List.sublist_append_left _ _)) hno
  have hin : ∀ c ∈ xe.left.take k, ∃ p ∈ Dk, p.1 = c := fun c hc => (hM.cover c).2 (.inr (List.mem_flatMap.2 ⟨c, hc, walk_self hG.down (hdn c (.inl (List.mem_of_mem_take hc))).2⟩))
  refine CW.region ?_
  refine WL.v (Y.indexAddrN Tryd.underlying102 rfl rfl sz0_fuguenode om_) ?_
  refine WL.v (Y.load1 Tryd.underlying101 rfl ((hma.ext hM.cp.ext).cell0) rfl) ?_
  refine WL.a rfl ?_
  refine WL.nil (hK9 _ _ ?_); try clear hK9
  refine CW.held (fun wq => Chg (fun k => k ≠ gf) w3 wq) kr_ 13 rfl fun w4 hx4 => ?_
  have hS := Ext.chg (S := fun k => k ≠ gf) hx4
  have hMk := hM.then hx4
  refine RH.tk 0 hS rfl (fun wq hq => Y.move rfl) ?_
  refine RH.tk 1 hS rfl (fun wq hq => Y.move rfl) ?_
  refine RH.tk 2 hS rfl (fun wq hq => Y.nilCheck rfl) ?_
  refine RH.tk 3 hS rfl (fun wq hq => Y.fieldAddr fo_fuguenode3 rfl) ?_
  refine RH.tk 5 hS rfl (fun wq hq => Y.load1 Tryd.underlying129 rfl (hM.cp.from_.chg hq (fun h => h rfl)).mem.cell0 rfl) ?_
  refine RH.tk 6 hS rfl (fun wq hq => Y.move rfl) ?_
  refine RH.two 4 7 kr_ ?_ ?_
  ·
   skip
   refine RS.val rfl (Y.load1 Tryd.underlying102 rfl hMk.blk.mem.fuguenode3 rfl) de_ ⟨hS, ?_⟩
   refine RH.one 7 kr_ ?_
   refine RS.callV rfl rfl Tryd.func52 rfl rfl rfl (IH q (.inl hqm) _ _ hMk.cp hnq) de_ fun v41 w5 hR5 => ?_
   obtain ⟨X, y, rfl, hX, hyX, hcov, hnew, hc5⟩ := hR5
   have hkne := hMk.kne
   have hS := hS.trans hc5 (fun k _ h => by have h : k = rb2 := h; rw [h]; exact hkne.2.2)
   have hMk := hMk.call hX hcov hnew hc5
   refine ⟨hS, ?_⟩
   refine RH.one 8 kr_ ?_
   refine RS.st rfl (St.buildSlice rfl (bs1_ptr _)) de_ fun v42 w6 hR6 => ?_
   obtain ⟨gv, rfl, hgv, hBv, hx6⟩ := hR6
   have hS := hS.thenExt hx6
   have hMk := hMk.then hx6
   refine ⟨hS, ?_⟩
   refine RH.one 9 kr_ ?_
   refine RS.st rfl (St.append (m := 1) (news := ptrL [y.g]) UP UP ai_ptr rfl rfl hMk.own.1 (Fw.Src.one hBv rfl) one_ptrL (by rw [ptrL_length, List.length_map, List.length_take]; omega)) de_ fun v43 w7 hR7 => ?_
   obtain ⟨hO7, hc7, hf7⟩ := hR7
   obtain ⟨A7, n7, c7, rfl⟩ := hO7.lens
   have hkne := hMk.kne
   have hS := hS.trans hc7 (fun k _ h => (hkne.1 k (.inl h)).2)
   have hB7 := hMk.blk.chg hc7 (fun h => (hkne.1 _ (.inl h)).1 rfl)
   refine ⟨hS, ?_⟩
   refine RH.tk 10 hS rfl (fun wq hq => Y.nilCheck rfl) ?_
   refine RH.tk 11 hS rfl (fun wq hq => Y.fieldAddr fo_fuguenode3 rfl) ?_
   refine RH.one 12 kr_ ?_
   refine RS.store rfl (g := g24) (pre := refC xe.name ++ [bc xe.byte, .bool xe.gone]) (old := [u1]) (post := [v1]) (new := [.slice A7 n7 c7]) rfl (by rw [add_zero', List.length_append, refC_length]; rfl) rfl rfl kr_ (by simpa [nodeC] using hB7) rfl (one1 rfl) (fun w8 hc8 hB8_ => ?_)
   have hS := hS.trans hc8 (fun k _ h => by have h : k = g24 := h; rw [h]; exact hkne.2.1)
   have hM8 := hMk.putL hc7 (by rw [ptrL_app]; exact hO7) hf7 hc8 (by simpa [nodeC] using hB8_)
   refine ⟨hS, ?_⟩
   refine RH.done kr_ ?_
   skip
   refine hK8 _ _ ?_; try clear hK8
   refine CW.region ?_
   refine WL.v (Y.add rfl rfl o2_) ?_
   refine WL.m rfl ?_
   refine WL.nil ?_
   rw [us_step hX.nodup hq hin hyX, ← flat_takeS hq] at hM8
   subst hv1
   exact ⟨(k + 1, .slice A7 n7 c7, Dk ++ X), (by show m - (k + 1) < m - k; omega), Fr.ok, (by show k + 1 ≤ m; omega), hM8⟩
  ·
   skip
   refine RS.callV rfl rfl Tryd.func52 rfl rfl rfl (IH q (.inl hqm) _ _ hMk.cp hnq) de_ fun v41 w9 hR9 => ?_
   obtain ⟨X, y, rfl, hX, hyX, hcov, hnew, hc9⟩ := hR9
   have hkne := hMk.kne
   have hS := hS.trans hc9 (fun k _ h => by have h : k = rb2 := h; rw [h]; exact hkne.2.2)
   have hMk := hMk.call hX hcov hnew hc9
   refine ⟨hS, ?_⟩
   refine RH.two 4 8 kr_ ?_ ?_
   ·
    skip
    refine RS.val rfl (Y.load1 Tryd.underlying102 rfl hMk.blk.mem.fuguenode3 rfl) de_ ⟨hS, ?_⟩
    refine RH.one 8 kr_ ?_
    refine RS.st rfl (St.buildSlice rfl (bs1_ptr _)) de_ fun v42 w10 hR10 => ?_
    obtain ⟨gv, rfl, hgv, hBv, hx10⟩ := hR10
    have hS := hS.thenExt hx10
    have hMk := hMk.then hx10
    refine ⟨hS, ?_⟩
    refine RH.one 9 kr_ ?_
    refine RS.st rfl (St.append (m := 1) (news := ptrL [y.g]) UP UP ai_ptr rfl rfl hMk.own.1 (Fw.Src.one hBv rfl) one_ptrL (by rw [ptrL_length, List.length_map, List.length_take]; omega)) de_ fun v43 w11 hR11 => ?_
    obtain ⟨hO11, hc11, hf11⟩ := hR11
    obtain ⟨A7, n7, c7, rfl⟩ := hO11.lens
    have hkne := hMk.kne
    have hS := hS.trans hc11 (fun k _ h => (hkne.1 k (.inl h)).2)
    have hB7 := hMk.blk.chg hc11 (fun h => (hkne.1 _ (.inl h)).1 rfl)
    refine ⟨hS, ?_⟩
    refine RH.tk 10 hS rfl (fun wq hq => Y.nilCheck rfl) ?_
    refine RH.tk 11 hS rfl (fun wq hq => Y.fieldAddr fo_fuguenode3 rfl) ?_
    refine RH.one 12 kr_ ?_
    refine RS.store rfl (g := g24) (pre := refC xe.name ++ [bc xe.byte, .bool xe.gone]) (old := [u1]) (post := [v1]) (new := [.slice A7 n7 c7]) rfl (by rw [add_zero', List.length_append, refC_length]; rfl) rfl rfl kr_ (by simpa [nodeC] using hB7) rfl (one1 rfl) (fun w12 hc12 hB12_ => ?_)
    have hS := hS.trans hc12 (fun k _ h => by have h : k = g24 := h; rw [h]; exact hkne.2.1)
    have hM8 := hMk.putL hc11 (by rw [ptrL_app]; exact hO11) hf11 hc12 (by simpa [nodeC] using hB12_)
    refine ⟨hS, ?_⟩
    refine RH.done kr_ ?_
    skip
    refine hK8 _ _ ?_; try clear hK8
    refine CW.region ?_
    refine WL.v (Y.add rfl rfl o2_) ?_
    refine WL.m rfl ?_
    refine WL.nil ?_
    rw [us_step hX.nodup hq hin hyX, ← flat_takeS hq] at hM8
    subst hv1
    exact ⟨(k + 1, .slice A7 n7 c7, Dk ++ X), (by show m - (k + 1) < m - k; omega), Fr.ok, (by show k + 1 ≤ m; omega), hM8⟩
   ·
    skip
    refine RS.st rfl (St.buildSlice rfl (bs1_ptr _)) de_ fun v42 w13 hR13 => ?_
    obtain ⟨gv, rfl, hgv, hBv, hx13⟩ := hR13
    have hS := hS.thenExt hx13
    have hMk := hMk.then hx13
    refine ⟨hS, ?_⟩
    refine RH.one 4 kr_ ?_
    refine RS.val rfl (Y.load1 Tryd.underlying102 rfl hMk.blk.mem.fuguenode3 rfl) de_ ⟨hS, ?_⟩
    refine RH.one 9 kr_ ?_
    refine RS.st rfl (St.append (m := 1) (news := ptrL [y.g]) UP UP ai_ptr rfl rfl hMk.own.1 (Fw.Src.one hBv rfl) one_ptrL (by rw [ptrL_length, List.length_map, List.length_take]; omega)) de_ fun v43 w14 hR14 => ?_
    obtain ⟨hO14, hc14, hf14⟩ := hR14
    obtain ⟨A7, n7, c7, rfl⟩ := hO14.lens
    have hkne := hMk.kne
    have hS := hS.trans hc14 (fun k _ h => (hkne.1 k (.inl h)).2)
    have hB7 := hMk.blk.chg hc14 (fun h => (hkne.1 _ (.inl h)).1 rfl)
    refine ⟨hS, ?_⟩
    refine RH.tk 10 hS rfl (fun wq hq => Y.nilCheck rfl) ?_
    refine RH.tk 11 hS rfl (fun wq hq => Y.fieldAddr fo_fuguenode3 rfl) ?_
    refine RH.one 12 kr_ ?_
    refine RS.store rfl (g := g24) (pre := refC xe.name ++ [bc xe.byte, .bool xe.gone]) (old := [u1]) (post := [v1]) (new := [.slice A7 n7 c7]) rfl (by rw [add_zero', List.length_append, refC_length]; rfl) rfl rfl kr_ (by simpa [nodeC] using hB7) rfl (one1 rfl) (fun w15 hc15 hB15_ => ?_)
    have hS := hS.trans hc15 (fun k _ h => by have h : k = g24 := h; rw [h]; exact hkne.2.1)
    have hM8 := hMk.putL hc14 (by rw [ptrL_app]; exact hO14) hf14 hc15 (by simpa [nodeC] using hB15_)
    refine ⟨hS, ?_⟩
    refine RH.done kr_ ?_
    skip
    refine hK8 _ _ ?_; try clear hK8
    refine CW.region ?_
    refine WL.v (Y.add rfl rfl o2_) ?_
    refine WL.m rfl ?_
    refine WL.nil ?_
    rw [us_step hX.nodup hq hin hyX, ← flat_takeS hq] at hM8
    subst hv1
    exact ⟨(k + 1, .slice A7 n7 c7, Dk ++ X), (by show m - (k + 1) < m - k; omega), Fr.ok, (by show k + 1 ≤ m; omega), hM8⟩
 refine CW.exit ?_
 refine hK3 _ _ ?_; try clear hK3
 refine CW.seq fun K10 hK10 => ?_
 refine CW.seq fun K11 hK11 => ?_
 have hke : xe.left.take k = xe.left := List.take_of_length_le om_
 rw [hke] at hM
 have hzb := hz0.ext hM.cp.ext
 refine CW.region ?_
 refine WL.m rfl ?_
 refine WL.v (Y.nilCheck rfl) ?_
 refine WL.v (Y.fieldAddr fo_fuguenode4 rfl) ?_
 refine WL.v (Y.load1 Tryd.underlying102 rfl ((hzb.ext (Chg.refl : Ext w3 w3)).mem.fuguenode4) rfl) ?_
 refine WL.v (Y.len_slice Tryd.underlying102 rfl) ?_
 refine WL.m rfl ?_
 refine WL.nil (hK11 _ _ ?_); try clear hK11
 refine CW.block ?_
 refine CW.loop (X := Nat × Value × List (Nat × Nn)) (fun x => [(0, .pointer (some ⟨gx, 0, none⟩)), (1, .pointer (some ⟨gf, 0, none⟩)), (2, .pointer (some ⟨gt, 0, none⟩)), (3, .pointer (some ⟨gc, 0, none⟩)), (6, .pointer (some ⟨g24, 0, none⟩)), (50, .slice A2 m2 c2), (51, .int .i64 (m2 : Int)), (52, .int .i64 (x.1 : Int))]) (fun x w0 => x.1 ≤ m2 ∧ CpMid wB w w0 ns g gf gt gc g2 rb2 gr ra2 n2 D x.2.2 xe g24 u1 x.2.1 (xe.left.map (gD x.2.2)) ((xe.right.take x.1).map (gD x.2.2)) (xe.left.flatMap (walkE (Fw.els ns)) ++ (xe.right.take x.1).flatMap (walkE (Fw.els ns)))) (fun x => m2 - x.1) (0, .slice none 0 0, Dk) Fr.ok ⟨Nat.zero_le _, by rw [← hv1]; simpa using hM⟩ ?_
 intro x w16 hl16
 subst hv1
 obtain ⟨k, v1, Dk⟩ := x
 dsimp only at hl16 ⊢
 obtain ⟨hkm, hM⟩ := hl16
 refine CW.sr fun K12 hK12 => ?_
 refine WL.v (Y.lss rfl rfl) ?_
 refine WL.nil (hK12 _ _ ?_); try clear hK12
 refine CW.seq fun K13 hK13 => ?_
 (first | refine cd_ rfl ?_ ?_ | refine ce_ rfl ?_ ?_ | refine cn_ rfl ?_ ?_ | refine cb_ rfl ?_ ?_) <;> intro ht14
 ·
  -- then
  refine CW.skip ?_
  refine hK13 _ _ ?_; try clear hK13
  refine CW.seq fun K15 hK15 => ?_
  refine CW.block ?_
  refine CW.seq fun K16 hK16 => ?_
  obtain ⟨q, hq⟩ : ∃ q, xe.right[k]? = some q := ⟨_, List.getElem?_eq_getElem om_⟩
  have hqm := List.mem_of_getElem? hq
  obtain ⟨a, rfl, hma⟩ := hrg k q hq
  have hnq : ∀ p ∈ Dk, p.1 ∉ walkE (Fw.els ns) q := child_new hG hil (fun j hj => (hM.cover j).1 hj) (by rw [hwk, List.append_assoc]; exact List.Sublist.append (List.Sublist.refl _) ((flat_pre hq).trans (List.sublist_cons_self _ _))) hno
  have hin : ∀ c ∈ xe.right.take k, ∃ p ∈ Dk, p.1 = c := fun c hc => (hM.cover c).2 (.inr (List.mem_append_right _ (List.mem_flatMap.2 ⟨c, hc, walk_self hG.down (hdn c (.inr (List.mem_of_mem_take hc))).2⟩)))
  have hlft : ∀ X : List (Nat × Nn), xe.left.map (gD Dk) = xe.left.map (gD (Dk ++ X)) := fun X => List.map_congr_left fun c hc => (gD_app ((hM.cover c).2 (.inr (List.mem_append_left _ (List.mem_flatMap.2 ⟨c, hc, walk_self hG.down (hdn c (.inl hc)).2⟩))))).symm
  refine CW.region ?_
  refine WL.v (Y.indexAddrN Tryd.underlying102 rfl rfl sz0_fuguenode om_) ?_
  refine WL.v (Y.load1 Tryd.underlying101 rfl ((hma.ext hM.cp.ext).cell0) rfl) ?_
  refine WL.a rfl ?_
  refine WL.nil (hK16 _ _ ?_); try clear hK16
  refine CW.held (fun wq => Chg (fun k => k ≠ gf) w16 wq) kr_ 13 rfl fun w17 hx17 => ?_
  have hS := Ext.chg (S := fun k => k ≠ gf) hx17
  have hMk := hM.then hx17
  refine RH.tk 0 hS rfl (fun wq hq => Y.move rfl) ?_
  refine RH.tk 1 hS rfl (fun wq hq => Y.move rfl) ?_
  refine RH.tk 2 hS rfl (fun wq hq => Y.nilCheck rfl) ?_
  refine RH.tk 3 hS rfl (fun wq hq => Y.fieldAddr fo_fuguenode4 rfl) ?_
  refine RH.tk 5 hS rfl (fun wq hq => Y.load1 Tryd.underlying129 rfl (hM.cp.from_.chg hq (fun h => h rfl)).mem.cell0 rfl) ?_
  refine RH.tk 6 hS rfl (fun wq hq => Y.move rfl) ?_
  refine RH.two 4 7 kr_ ?_ ?_
  ·
   skip
   refine RS.val rfl (Y.load1 Tryd.underlying102 rfl hMk.blk.mem.fuguenode4 rfl) de_ ⟨hS, ?_⟩
   refine RH.one 7 kr_ ?_
   refine RS.callV rfl rfl Tryd.func52 rfl rfl rfl (IH q (.inr hqm) _ _ hMk.cp hnq) de_ fun v63 w18 hR18 => ?_
   obtain ⟨X, y, rfl, hX, hyX, hcov, hnew, hc18⟩ := hR18
   have hkne := hMk.kne
   have hS := hS.trans hc18 (fun k _ h => by have h : k = rb2 := h; rw [h]; exact hkne.2.2)
   have hMk := hMk.call hX hcov hnew hc18
   refine ⟨hS, ?_⟩
   refine RH.one 8 kr_ ?_
   refine RS.st rfl (St.buildSlice rfl (bs1_ptr _)) de_ fun v64 w19 hR19 => ?_
   obtain ⟨gv, rfl, hgv, hBv, hx19⟩ := hR19
   have hS := hS.thenExt hx19
   have hMk := hMk.then hx19
   refine ⟨hS, ?_⟩
   refine RH.one 9 kr_ ?_
   refine RS.st rfl (St.append (m := 1) (news := ptrL [y.g]) UP UP ai_ptr rfl rfl hMk.own.2 (Fw.Src.one hBv rfl) one_ptrL (by rw [ptrL_length, List.length_map, List.length_take]; omega)) de_ fun v65 w20 hR20 => ?_
   obtain ⟨hO20, hc20, hf20⟩ := hR20
   obtain ⟨A7, n7, c7, rfl⟩ := hO20.lens
   have hkne := hMk.kne
   have hS := hS.trans hc20 (fun k _ h => (hkne.1 k (.inr h)).2)
   have hB7 := hMk.blk.chg hc20 (fun h => (hkne.1 _ (.inr h)).1 rfl)
   refine ⟨hS, ?_⟩
   refine RH.tk 10 hS rfl (fun wq hq => Y.nilCheck rfl) ?_
   refine RH.tk 11 hS rfl (fun wq hq => Y.fieldAddr fo_fuguenode4 rfl) ?_
   refine RH.one 12 kr_ ?_
   refine RS.store rfl (g := g24) (pre := refC xe.name ++ [bc xe.byte, .bool xe.gone, u1]) (old := [v1]) (post := []) (new := [.slice A7 n7 c7]) rfl (by rw [add_zero', List.length_append, refC_length]; rfl) rfl rfl kr_ (by simpa [nodeC] using hB7) rfl (one1 rfl) (fun w21 hc21 hB21_ => ?_)
   have hS := hS.trans hc21 (fun k _ h => by have h : k = g24 := h; rw [h]; exact hkne.2.1)
   have hM8 := hMk.putR hc20 (by rw [ptrL_app]; exact hO20) hf20 hc21 (by simpa [nodeC] using hB21_)
   refine ⟨hS, ?_⟩
   refine RH.done kr_ ?_
   skip
   refine hK15 _ _ ?_; try clear hK15
   refine CW.region ?_
   refine WL.v (Y.add rfl rfl o2_) ?_
   refine WL.m rfl ?_
   refine WL.nil ?_
   rw [us_step hX.nodup hq hin hyX, hlft X, List.append_assoc, ← flat_takeS hq] at hM8
   exact ⟨(k + 1, .slice A7 n7 c7, Dk ++ X), (by show m2 - (k + 1) < m2 - k; omega), Fr.ok, (by show k + 1 ≤ m2; omega), hM8⟩
  ·
   skip
   refine RS.callV rfl rfl Tryd.func52 rfl rfl rfl (IH q (.inr hqm) _ _ hMk.cp hnq) de_ fun v63 w22 hR22 => ?_
   obtain ⟨X, y, rfl, hX, hyX, hcov, hnew, hc22⟩ := hR22
   have hkne := hMk.kne
   have hS := hS.trans hc22 (fun k _ h => by have h : k = rb2 := h; rw [h]; exact hkne.2.2)
   have hMk := hMk.call hX hcov hnew hc22
   refine ⟨hS, ?_⟩
   refine RH.two 4 8 kr_ ?_ ?_
   ·
    skip
    refine RS.val rfl (Y.load1 Tryd.underlying102 rfl hMk.blk.mem.fuguenode4 rfl) de_ ⟨hS, ?_⟩
    refine RH.one 8 kr_ ?_
    refine RS.st rfl (St.buildSlice rfl (bs1_ptr _)) de_ fun v64 w23 hR23 => ?_
    obtain ⟨gv, rfl, hgv, hBv, hx23⟩ := hR23
    have hS := hS.thenExt hx23
    have hMk := hMk.then hx23
    refine ⟨hS, ?_⟩
    refine RH.one 9 kr_ ?_
    refine RS.st rfl (St.append (m := 1) (news := ptrL [y.g]) UP UP ai_ptr rfl rfl hMk.own.2 (Fw.Src.one hBv rfl) one_ptrL (by rw [ptrL_length, List.length_map, List.length_take]; omega)) de_ fun v65 w24 hR24 => ?_
    obtain ⟨hO24, hc24, hf24⟩ := hR24
    obtain ⟨A7, n7, c7, rfl⟩ := hO24.lens
    have hkne := hMk.kne
    have hS := hS.trans hc24 (fun k _ h => (hkne.1 k (.inr h)).2)
    have hB7 := hMk.blk.chg hc24 (fun h => (hkne.1 _ (.inr h)).1 rfl)
    refine ⟨hS, ?_⟩
    refine RH.tk 10 hS rfl (fun wq hq => Y.nilCheck rfl) ?_
    refine RH.tk 11 hS rfl (fun wq hq => Y.fieldAddr fo_fuguenode4 rfl) ?_
    refine RH.one 12 kr_ ?_
    refine RS.store rfl (g := g24) (pre := refC xe.name ++ [bc xe.byte, .bool xe.gone, u1]) (old := [v1]) (post := []) (new := [.slice A7 n7 c7]) rfl (by rw [add_zero', List.length_append, refC_length]; rfl) rfl rfl kr_ (by simpa [nodeC] using hB7) rfl (one1 rfl) (fun w25 hc25 hB25_ => ?_)
    have hS := hS.trans hc25 (fun k _ h => by have h : k = g24 := h; rw [h]; exact hkne.2.1)
    have hM8 := hMk.putR hc24 (by rw [ptrL_app]; exact hO24) hf24 hc25 (by simpa [nodeC] using hB25_)
    refine ⟨hS, ?_⟩
    refine RH.done kr_ ?_
    skip
    refine hK15 _ _ ?_; try clear hK15
    refine CW.region ?_
    refine WL.v (Y.add rfl rfl o2_) ?_
    refine WL.m rfl ?_
    refine WL.nil ?_
    rw [us_step hX.nodup hq hin hyX, hlft X, List.append_assoc, ← flat_takeS hq] at hM8
    exact ⟨(k + 1, .slice A7 n7 c7, Dk ++ X), (by show m2 - (k + 1) < m2 - k; omega), Fr.ok, (by show k + 1 ≤ m2; omega), hM8⟩
   ·
    skip
    refine RS.st rfl (St.buildSlice rfl (bs1_ptr _)) de_ fun v64 w26 hR26 => ?_
    obtain ⟨gv, rfl, hgv, hBv, hx26⟩ := hR26
    have hS := hS.thenExt hx26
    have hMk := hMk.then hx26
    refine ⟨hS, ?_⟩
    refine RH.one 4 kr_ ?_
    refine RS.val rfl (Y.load1 Tryd.underlying102 rfl hMk.blk.mem.fuguenode4 rfl) de_ ⟨hS, ?_⟩
    refine RH.one 9 kr_ ?_
    refine RS.st rfl (St.append (m := 1) (news := ptrL [y.g]) UP UP ai_ptr rfl rfl hMk.own.2 (Fw.Src.one hBv rfl) one_ptrL (by rw [ptrL_length, List.length_map, List.length_take]; omega)) de_ fun v65 w27 hR27 => ?_
    obtain ⟨hO27, hc27, hf27⟩ := hR27
    obtain ⟨A7, n7, c7, rfl⟩ := hO27.lens
    have hkne := hMk.kne
    have hS := hS.trans hc27 (fun k _ h => (hkne.1 k (.inr h)).2)
    have hB7 := hMk.blk.chg hc27 (fun h => (hkne.1 _ (.inr h)).1 rfl)
    refine ⟨hS, ?_⟩
    refine RH.tk 10 hS rfl (fun wq hq => Y.nilCheck rfl) ?_
    refine RH.tk 11 hS rfl (fun wq hq => Y.fieldAddr fo_fuguenode4 rfl) ?_
    refine RH.one 12 kr_ ?_
    refine RS.store rfl (g := g24) (pre := refC xe.name ++ [bc xe.byte, .bool xe.gone, u1]) (old := [v1]) (post := []) (new := [.slice A7 n7 c7]) rfl (by rw [add_zero', List.length_append, refC_length]; rfl) rfl rfl kr_ (by simpa [nodeC] using hB7) rfl (one1 rfl) (fun w28 hc28 hB28_ => ?_)
    have hS := hS.trans hc28 (fun k _ h => by have h : k = g24 := h; rw [h]; exact hkne.2.1)
    have hM8 := hMk.putR hc27 (by rw [ptrL_app]; exact hO27) hf27 hc28 (by simpa [nodeC] using hB28_)
    refine ⟨hS, ?_⟩
    refine RH.done kr_ ?_
    skip
    refine hK15 _ _ ?_; try clear hK15
    refine CW.region ?_
    refine WL.v (Y.add rfl rfl o2_) ?_
    refine WL.m rfl ?_
    refine WL.nil ?_
    rw [us_step hX.nodup hq hin hyX, hlft X, List.append_assoc, ← flat_takeS hq] at hM8
    exact ⟨(k + 1, .slice A7 n7 c7, Dk ++ X), (by show m2 - (k + 1) < m2 - k; omega), Fr.ok, (by show k + 1 ≤ m2; omega), hM8⟩
 refine CW.exit ?_
 refine hK10 _ _ ?_; try clear hK10
 have hke : xe.right.take k = xe.right := List.take_of_length_le om_
 rw [hke] at hM
 have hzb := hz0.ext hM.cp.ext
 obtain ⟨z0, hz0i⟩ : ∃ z0, ns[0]? = some z0 := ⟨_, List.getElem?_eq_getElem (by have := hG.pos; rw [List.length_map] at this; exact this)⟩
 have hr0 := (hT.node 0 z0 hz0i).ext hM.cp.ext
 have htr := (hT.blk.ext hM.cp.ext)
 rw [gOf_at hz0i] at htr
 have hnoe : mfind BE.k xe.name (entD Dk) 0 = none := by
  cases hf : mfind BE.k xe.name (entD Dk) 0 with
  | none => rfl
  | some p =>
   obtain ⟨_, hj, hkk⟩ := mfind_some hf
   obtain ⟨q, hq, _, hqn, _⟩ := entD_mem (List.mem_of_getElem? hj)
   obtain ⟨zq, hzq, hqe, _⟩ := hM.cp.node q hq
   have := hG.inj (i := q.1) (j := i) (x := zq.el) (y := xe) (by rw [List.getElem?_map, hzq]; rfl) hze (by rw [← hqe, hqn, hkk])
   exfalso
   rcases (hM.cover q.1).1 ⟨q, hq, rfl⟩ with ⟨q', hq', he⟩ | hd
   ·
    exact hno q' hq' (by rw [he, this]; exact walk_self hG.down hil)
   ·
    have hnd := walk_nodup hG i hil
    rw [hwk, List.nodup_append] at hnd
    rw [this] at hd
    rcases List.mem_append.1 hd with hd | hd
    ·
     exact hnd.2.2 i hd i (by simp) rfl
    ·
     exact (List.nodup_cons.1 hnd.2.1).1 hd
 refine CW.seq_to (X := Unit) (fun _ => [(0, .pointer (some ⟨gx, 0, none⟩)), (1, .pointer (some ⟨gf, 0, none⟩)), (2, .pointer (some ⟨gt, 0, none⟩)), (3, .pointer (some ⟨gc, 0, none⟩)), (6, .pointer (some ⟨g24, 0, none⟩))]) (fun _ wj => ∃ X y, Value.pointer (some ⟨g24, 0, none⟩) = .pointer (some ⟨y.g, 0, none⟩) ∧ CpAt wB wj ns g gf gt gc g2 rb2 gr ra2 n2 (D ++ X) ∧ (i, y) ∈ X ∧ (∀ j, (∃ p ∈ X, p.1 = j) ↔ j ∈ walkE (Fw.els ns) i) ∧ (∀ p ∈ X, w.heap.size ≤ p.2.g ∧ ∀ (s : Bool) (k : Nat), (p.2.sv s).ownBlock = some k → w.heap.size ≤ k) ∧ Chg (fun k => k = rb2) w wj) ?_ ?_
 ·
  skip
  refine CW.sr fun K18 hK18 => ?_
  refine WL.m rfl ?_
  refine WL.v (Y.load1 Tryd.underlying54 rfl hM.cp.tbox.mem.cell0 rfl) ?_
  refine WL.v (Y.nilCheck rfl) ?_
  refine WL.v (Y.fieldAddr fo_fugueTree0 rfl) ?_
  refine WL.v (Y.load1 Tryd.underlying101 rfl htr.mem.fugueTree0 rfl) ?_
  refine WL.v (Y.neq_node2 hzb hr0 rfl rfl) ?_
  refine WL.nil (hK18 _ _ ?_); try clear hK18
  (first | refine cd_ rfl ?_ ?_ | refine ce_ rfl ?_ ?_ | refine cn_ rfl ?_ ?_ | refine cb_ rfl ?_ ?_) <;> intro ht19
  ·
   -- then
   refine CW.head 9 kr_ kr_ fun w29 hx29 => ?_
   skip; have hz29 := hx29.size; have hMk := hM.then hx29
   refine HL.val (Y.load1 Tryd.underlying54 rfl ((hM.cp.then hx29).cbox.mem.cell0) rfl) de_ ?_
   refine HL.val (Y.nilCheck rfl) de_ ?_
   refine HL.val (Y.fieldAddr fo_fugueTree1 rfl) de_ ?_
   refine HL.val (Y.load1 Tryd.underlying105 rfl ((hM.cp.then hx29).tree.mem.fugueTree1) rfl) de_ ?_
   refine HL.val (Y.move rfl) de_ ?_
   refine HL.val (Y.nilCheck rfl) de_ ?_
   refine HL.val (Y.fieldAddr fo_fuguenode0 rfl) de_ ?_
   refine HL.val (Y.load Tryd.underlying60 rfl hMk.blk.mem.fuguenode0 (sz_apiRef _) rfl) de_ ?_
   refine HL.val (Y.move rfl) de_ ?_
   refine HL.nil ?_
   refine WL.su (Su.mapNew (b := (⟨xe.name, g24, (entD Dk).length⟩ : BE)) keyRef (fun _ => rfl) UMB rfl rfl rfl (hM.cp.then hx29).map hnoe rfl) fun w30 hR30 => ?_
   obtain ⟨hM30, hc30⟩ := hR30
   refine WL.nil ?_
   have hi0 : i ≠ 0 := fun e => by
    subst e
    have e2 := Option.some.inj (hzi0.symm.trans hz0i)
    have e3 : gx = z0.g := by rw [← e2]
    exact absurd e3 (by assumption)
   exact ⟨(), Fr.ok, CpMid.fin hG hzi0 rfl (hM.then hx29) hno hc30 (by rw [entD_one hi0, List.length_append]; exact hM30)⟩
  refine CW.skip ?_
  have hi0 : i = 0 := hT.inj i 0 _ z0 hzi0 hz0i (by simp_all)
  subst hi0
  exact ⟨(), Fr.ok, CpMid.fin hG hzi0 rfl hM hno Chg.refl (by rw [entD_root]; exact hM.cp.map)⟩
 rintro u w31 hj31
 have hfin := hj31
 refine CW.sr fun K20 hK20 => ?_
 refine WL.m rfl ?_
 refine WL.a rfl ?_
 refine WL.nil (hK20 _ _ ?_); try clear hK20
 refine CW.ret ⟨_, rfl, ?_⟩
 exact hfin
end Go.Proofs.YtmehkigmnpjcjaaDoor
/- The program's Copy: every element's copy. No condition. -/
namespace Go.Proofs.YtmehkigmnpjcjaaDoor
open Go.RowKit Go.Fw Go.Fu Go.Pl
theorem fcopy1_any (g rb ra : Nat) (ad : List Dig) (ns : List Nn) (gf gt gc g2 rb2 gr ra2 n2 : Nat) (wB : World) (hT : FtAt wB g rb ra ad ns) (hG : Fu.Good (Fw.els ns)) (hn : ns.length ≤ 400001) : ∀ i, i < ns.length → CpOk wB ns g gf gt gc g2 rb2 gr ra2 n2 i := by
 have hel : (Fw.els ns).length = ns.length := List.length_map _
 intro i hi
 refine down_ind hG.down (P := CpOk wB ns g gf gt gc g2 rb2 gr ra2 n2) (fun i x hx IH => ?_) i om_
 have hil := (List.getElem?_eq_some_iff.1 hx).1
 obtain ⟨z, hz⟩ : ∃ z, ns[i]? = some z := ⟨_, List.getElem?_eq_getElem om_⟩
 have hze : (Fw.els ns)[i]? = some z.el := by rw [List.getElem?_map, hz]; rfl
 rw [hze] at hx
 obtain rfl := Option.some.inj hx
 intro w D hD hno
 exact fcopy1_step g rb ra ad ns gf gt gc g2 rb2 gr ra2 n2 i z wB w D hT hG hn hz (fun c hc => IH c hc (hG.down i z.el hze c hc).2) hD hno
end Go.Proofs.YtmehkigmnpjcjaaDoor
/- The program's Copy: what was copied is a tree. No condition. -/
namespace Go.Proofs.YtmehkigmnpjcjaaDoor
open Go.RowKit Go.Fw Go.Fu Go.Pl
def copA : Nat → List AE → List AE
 | _, [] => []
 | c, e :: r => { e with born := c } :: copA (c + 1) r
theorem copA_app : ∀ {c : Nat} {vs : List AE} {e : AE}, copA c (vs ++ [e]) = copA c vs ++ [{ e with born := c + vs.length }]
 | _, [], _ => rfl
 | c, x :: r, e => by
  rw [List.cons_append, copA, copA_app, copA, List.cons_append, List.length_cons, show c + 1 + r.length = c + (r.length + 1) by omega]
theorem copA_k : ∀ {c : Nat} {vs : List AE}, (copA c vs).map AE.k = vs.map AE.k
 | _, [] => rfl
 | c, x :: r => by rw [copA, List.map_cons, List.map_cons, copA_k]
theorem copA_mem : ∀ {c : Nat} {vs : List AE} {f : AE}, f ∈ copA c vs → ∃ e ∈ vs, f.k = e.k ∧ c ≤ f.born ∧ f.born < c + vs.length
 | _, [], _, h => by cases h
 | c, x :: r, f, h => by
  rcases List.mem_cons.1 h with rfl | h
  ·
   exact ⟨x, by simp, rfl, Nat.le_refl _, by rw [List.length_cons]; show c < _; omega⟩
  ·
   obtain ⟨e, he, h1, h2, h3⟩ := copA_mem h
   exact ⟨e, by simp [he], h1, by omega, by rw [List.length_cons]; omega⟩
theorem copA_born : ∀ {c : Nat} {vs : List AE}, ((copA c vs).map AE.born).Nodup
 | _, [] => List.nodup_nil
 | c, x :: r => by
  rw [copA, List.map_cons, List.nodup_cons]
  refine ⟨fun h => ?_, copA_born⟩
  obtain ⟨f, hf, he⟩ := List.mem_map.1 h
  obtain ⟨_, _, _, h4, _⟩ := copA_mem hf
  rw [he] at h4
  exact absurd h4 (by show ¬ c + 1 ≤ c; omega)
theorem ae_inj {l : List AE} (h : (l.map AE.k).Nodup) {x y : AE} (hx : x ∈ l) (hy : y ∈ l) (he : x.k = y.k) : x = y := by
 obtain ⟨i, hi⟩ := List.mem_iff_getElem?.1 hx
 obtain ⟨j, hj⟩ := List.mem_iff_getElem?.1 hy
 have h1 : (l.map AE.k)[i]? = some x.k := by simp [hi]
 have h2 : (l.map AE.k)[j]? = some x.k := by simp [hj, he]
 have hlt := (List.getElem?_eq_some_iff.1 h1).1
 have e := (List.getElem?_inj hlt h).1 (h1.trans h2.symm)
 subst e
 exact Option.some.inj (hi.symm.trans hj)
theorem copA_new {l vs : List AE} {e : AE} {c : Nat} (h : (l.map AE.k).Nodup) (hs : ∀ x ∈ vs, x ∈ l) (he : e ∈ l) (hn : e ∉ vs) : mfind AE.k e.k (copA c vs) 0 = none := by
 cases hf : mfind AE.k e.k (copA c vs) 0 with
 | none => rfl
 | some p =>
  obtain ⟨_, hj, hk⟩ := mfind_some hf
  obtain ⟨x, hx, h1, _⟩ := copA_mem (List.mem_of_getElem? hj)
  exact absurd ((ae_inj h (hs x hx) he (h1.symm.trans hk)) ▸ hx) hn
def nD (D : List (Nat × Nn)) (c : Nat) : Nn := ((D.find? fun p => decide (p.1 = c)).map fun p => p.2).getD ⟨El.root, 0, .slice none 0 0, .slice none 0 0⟩
theorem nD_mem {D : List (Nat × Nn)} (hn : (D.map (·.1)).Nodup) {p : Nat × Nn} (hp : p ∈ D) : nD D p.1 = p.2 := by
 induction D with
 | nil => cases hp
 | cons q r ih =>
  have hn' := List.nodup_cons.1 hn
  unfold nD
  rw [List.find?_cons]
  by_cases h : q.1 = p.1
  ·
   rcases List.mem_cons.1 hp with rfl | hp
   ·
    simp
   ·
    exact absurd (List.mem_map.2 ⟨p, hp, h.symm⟩) hn'.1
  ·
   rw [decide_eq_false h]
   rcases List.mem_cons.1 hp with rfl | hp
   ·
    exact absurd rfl h
   ·
    exact ih hn'.2 hp
def nsD (n : Nat) (D : List (Nat × Nn)) : List Nn := (List.range n).map (nD D)
theorem nsD_at {n i : Nat} {D : List (Nat × Nn)} : (nsD n D)[i]? = if i < n then some (nD D i) else none := by
 rw [nsD, List.getElem?_map]
 split
 ·
  rw [List.getElem?_range (by assumption)]; rfl
 ·
  rw [List.getElem?_eq_none_iff.2 (by simp; omega)]; rfl
theorem nsD_mem {n : Nat} {D : List (Nat × Nn)} (hn : (D.map (·.1)).Nodup) (hcov : ∀ i, (∃ p ∈ D, p.1 = i) ↔ i < n) {x : Nn} (hx : x ∈ nsD n D) : ∃ p ∈ D, p.2 = x := by
 obtain ⟨i, hi, rfl⟩ := List.mem_map.1 hx
 obtain ⟨p, hp, rfl⟩ := (hcov i).2 (List.mem_range.1 hi)
 exact ⟨p, hp, (nD_mem hn hp).symm⟩
theorem info_fnC : ∃ i : TypeInfo, Tryd.prog.info? TCf = some i ∧ i.zero = some Value.nilFunc ∧ i.size = 1 := by
 have h : (Tryd.prog.info? TCf).map (fun i => (i.zero, i.size)) = some (some Value.nilFunc, 1) := by kernel_rfl
 obtain ⟨i, hi, h⟩ := Option.map_eq_some_iff.1 h
 injection h with h1 h2
 exact ⟨i, hi, h1, h2⟩
theorem CpAt.ftAt {w0 w w' : World} {ns : List Nn} {g gf gt gc g2 rb2 gr ra2 n2 ra rb : Nat} {ad : List Dig} {D : List (Nat × Nn)} (h : CpAt w0 w ns g gf gt gc g2 rb2 gr ra2 n2 D) (hT : FtAt w0 g rb ra ad ns) (hG : Fu.Good (Fw.els ns)) (hcov : ∀ i, (∃ p ∈ D, p.1 = i) ↔ i < ns.length)
  (hc : Chg (fun k => k = g2) w w') (hb : Blk w' g2 TF (treeC (gD D 0) rb2 ra2 (liveN ns))) (hadd : ∃ cl l, MapAt w ra2 AE.me l cl ∧ (∀ e ∈ l, e.born < cl) ∧ (l.map AE.born).Nodup ∧ (l.map AE.k).Nodup ∧ ∀ d, d ∈ l.map AE.k ↔ d ∈ ad) (hne : rb2 ≠ ra2) :
  FtAt w' g2 rb2 ra2 ad (nsD ns.length D) ∧ Fw.els (nsD ns.length D) = Fw.els ns := by
 have hat : ∀ {i : Nat} {x : Nn}, (nsD ns.length D)[i]? = some x → (i, x) ∈ D := fun {i x} hx => by
  rw [nsD_at] at hx
  split at hx
  ·
   rename_i hi
   obtain ⟨p, hp, hpi⟩ := (hcov i).2 hi
   injection hx with hx
   have := nD_mem h.nodup hp
   rw [hpi, hx] at this
   obtain ⟨p1, p2⟩ := p
   dsimp only at hpi this
   subst hpi; subst this; exact hp
  ·
   cases hx
 have hg : ∀ c, c < ns.length → gOf (nsD ns.length D) c = gD D c := fun c hc => by
  obtain ⟨p, hp, hpi⟩ := (hcov c).2 hc
  subst hpi
  have h1 := nD_mem h.nodup hp
  rw [gOf_at (x := p.2) (by rw [nsD_at, if_pos hc, h1]), gD_mem h.nodup hp]
 have hpos : 0 < ns.length := by have := hG.pos; rw [List.length_map] at this; exact this
 have hlen : (nsD ns.length D).length = ns.length := by simp [nsD]
 have hels : Fw.els (nsD ns.length D) = Fw.els ns := by
  refine List.ext_getElem? fun i => ?_
  rw [List.getElem?_map, List.getElem?_map, nsD_at]
  split
  ·
   rename_i hi
   obtain ⟨p, hp, rfl⟩ := (hcov i).2 hi
   obtain ⟨z, hz, he, _⟩ := h.node p hp
   rw [nD_mem h.nodup hp, hz, Option.map_some, Option.map_some, he]
  ·
   rename_i hi
   rw [List.getElem?_eq_none_iff.2 om_]
 have hdn : ∀ {i : Nat} {x : Nn}, (i, x) ∈ D → ∀ (s : Bool) (c : Nat), c ∈ side x.el s → c < ns.length := fun {i x} hx s c hc => by
  obtain ⟨z, hz, he, _⟩ := h.node _ hx
  have hze : (Fw.els ns)[i]? = some x.el := by rw [List.getElem?_map, hz]; show some z.el = _; rw [← he]
  have := (hG.down i x.el hze c (by cases s; exact .inr hc; exact .inl hc)).2
  rwa [List.length_map] at this
 have hDl : D.length = ns.length := by
  have h1 : (D.map (·.1)).Perm (List.range ns.length) := (List.perm_ext_iff_of_nodup h.nodup List.nodup_range).2 fun i => by
   rw [List.mem_range, ← hcov i, List.mem_map]
  have := h1.length_eq
  simpa using this
 have hkne : ∀ {i : Nat} {x : Nn}, (i, x) ∈ D → x.g ≠ g2 ∧ ∀ s k, (x.sv s).ownBlock = some k → k ≠ g2 := fun {i x} hx => by
  refine ⟨?_, fun s k hk => ?_⟩
  ·
   rintro rfl
   obtain ⟨_, _, _, hB⟩ := h.node _ hx
   exact absurd (blk_kind hB h.tree) de_
  ·
   rintro rfl
   obtain ⟨_, _, h1⟩ := (h.kids _ hx s).kind hk
   exact absurd (blk_kind h1 h.tree) de_
 refine ⟨?_, hels⟩
 exact {
  blk := by
   rw [hg 0 hpos]
   have : liveN (nsD ns.length D) = liveN ns := by unfold liveN; rw [hels]
   rw [this]; exact hb
  node := fun i x hx => by
   have hm := hat hx
   obtain ⟨z, hz, he, hB⟩ := h.node _ hm
   have hB := hB.chg hc (fun e => (hkne hm).1 e)
   exact hB
  kids := fun i x s hx => by
   have hm := hat hx
   have hO := (h.kids _ hm s).chg hc (fun k hk e => (hkne hm).2 s k hk e)
   have e : (side x.el s).map (gD D) = (side x.el s).map (gOf (nsD ns.length D)) := List.map_congr_left fun c hc => (hg c (hdn hm s c hc)).symm
   rw [← e]; exact hO
  inj := fun i j x y hx hy e => h.inj _ (hat hx) _ (hat hy) e
  sep := fun i j x y s t k hx hy h1 h2 => h.sep _ (hat hx) _ (hat hy) s t k h1 h2
  by_ := by
   refine ⟨_, _, h.map.chg hc (fun e => ?_), fun e he => ?_, ?_, ?_, fun e he => ?_, fun i x hi hx => ?_⟩
   ·
    have hm := h.map
    rw [e] at hm
    exact blk_map h.tree hm
   ·
    have h1 : e.born ∈ (entD D).map BE.born := List.mem_map.2 ⟨e, he, rfl⟩
    rw [entD_born, List.mem_range] at h1
    exact h1
   ·
    rw [entD_born]; exact List.nodup_range
   ·
    rw [hlen, entD_length, ← hDl]
    have h1 : D.countP (fun p => decide (p.1 = 0)) = 1 := by
     obtain ⟨p, hp, hp0⟩ := (hcov 0).2 hpos
     have h2 : (D.map (·.1)).count 0 = 1 := (List.Nodup.count (a := 0) h.nodup).trans (if_pos (List.mem_map.2 ⟨p, hp, hp0⟩))
     rw [List.count_eq_countP, List.countP_map] at h2
     rw [← h2]; rfl
    have h3 := List.length_eq_countP_add_countP (l := D) (fun p => decide (p.1 = 0))
    have h4 : D.countP (fun p => decide (p.1 ≠ 0)) = D.countP (fun p => decide (¬ decide (p.1 = 0) = true)) := List.countP_congr fun q _ => by simp
    rw [← List.countP_eq_length_filter, h4]
    omega
   ·
    obtain ⟨p, hp, h0, h1, h2⟩ := entD_mem he
    have hlt := (hcov p.1).1 ⟨p, hp, rfl⟩
    exact ⟨p.1, p.2, by omega, by rw [nsD_at, if_pos hlt, nD_mem h.nodup hp], h1, h2⟩
   ·
    exact entD_has (hat hx) (by show i ≠ 0; omega)
  added := by
   obtain ⟨cl, l, hM, hr⟩ := hadd
   exact ⟨cl, l, hM.chg hc (fun e => by have h1 := h.tree; unfold Blk at h1; unfold MapAt at hM; rw [e, h1] at hM; cases hM), hr⟩
  ne := hne }
end Go.Proofs.YtmehkigmnpjcjaaDoor
/- The program's Copy, walked. No condition. -/
namespace Go.Proofs.YtmehkigmnpjcjaaDoor
open Go.RowKit Go.Fw Go.Fu Go.Pl
theorem fnew0_any (w : World) : Calls Tryd.prog 18 #[] w (Ret fun v w' => ∃ g rb ra gn, v = .pointer (some ⟨g, 0, none⟩) ∧ w.heap.size ≤ g ∧ w.heap.size ≤ rb ∧ w.heap.size ≤ ra ∧ rb < ra ∧ Blk w' g TF (treeC gn rb ra 0) ∧ MapAt w' rb BE.me ([] : List BE) 0 ∧ MapAt w' ra AE.me ([] : List AE) 0 ∧ Ext w w') := by
 refine calls_of_CW 7 [0] [] Tryd.func18 rfl rfl rfl (by simp) args0 ?_
 have hE : Ext w w := Chg.refl
 refine CW.sr fun K1 hK1 => ?_
 refine WL.a rfl ?_
 refine WL.nil (hK1 _ _ ?_); try clear hK1
 refine CW.sr fun K2 hK2 => ?_
 refine WL.v (Y.build rfl (build_rootN _)) ?_
 refine WL.box rfl rfl de_ fun g2 w1 hx1 hg2 hB2 => ?_
 have hlt2 := hB2.lt; have hz1 := hx1.size
 have hM2 := hB2.mem; have hz1 := hx1.size; have hE := hE.thenExt hx1
 refine WL.st (St.makeMap) de_ fun v3 w2 hR2 => ?_
 obtain ⟨rb, rfl, hrb, hMb, hx2⟩ := hR2
 have hz2 := hx2.size
 have hE := hE.thenExt hx2
 have hB2 := hB2.ext hx2
 have hlb := (hMb BE BE.me).lt
 refine WL.st (St.makeMap) de_ fun v4 w3 hR3 => ?_
 obtain ⟨ra, rfl, hra, hMa, hx3⟩ := hR3
 have hz3 := hx3.size
 have hE := hE.thenExt hx3
 have hB2 := hB2.ext hx3
 refine WL.v (Y.build rfl (build_treeF _ _ _ _)) ?_
 refine WL.box rfl rfl de_ fun g6 w4 hx4 hg6 hB6 => ?_
 have hlt6 := hB6.lt; have hz4 := hx4.size
 have hM6 := hB6.mem; have hz4 := hx4.size; have hE := hE.thenExt hx4; have hB2 := hB2.ext hx4
 refine WL.a rfl ?_
 refine WL.nil (hK2 _ _ ?_); try clear hK2
 refine CW.ret ⟨_, rfl, ?_⟩
 exact ⟨_, rb, ra, _, rfl, by omega, by omega, by omega, by omega, hB6, ((hMb BE BE.me).ext hx3).ext hx4, (hMa AE AE.me).ext hx4, hE⟩
set_option maxRecDepth 100000 in
set_option maxHeartbeats 4000000 in
theorem fcopy_any (g rb ra : Nat) (ad : List Dig) (ns : List Nn) (w : World) (hT : FtAt w g rb ra ad ns) (hG : Fu.Good (Fw.els ns)) (hn : ns.length ≤ 400001) : Calls Tryd.prog 28 #[.pointer (some ⟨g, 0, none⟩)] w (Ret fun v w' => ∃ g' rb' ra' ns', v = .pointer (some ⟨g', 0, none⟩) ∧ FtAt w' g' rb' ra' ad ns' ∧ Fw.els ns' = Fw.els ns ∧ (∀ q, Fp g' rb' ra' ns' q → w.heap.size ≤ q) ∧ Ext w w') := by
 obtain ⟨cl, l, hMp, hold, hborn, hkeys, hmem⟩ := hT.added
 obtain ⟨ifn, hifn, hzfn, hsfn⟩ := info_fnC
 have hraw := hMp.lt
 have hel : (Fw.els ns).length = ns.length := List.length_map _
 have hT0 := hT
 refine calls_of_CW 45 [2] [(0, .pointer (some ⟨g, 0, none⟩))] Tryd.func28 rfl rfl rfl (by simp) args1 ?_
 have hE : Ext w w := Chg.refl
 refine CW.sr fun K1 hK1 => ?_
 refine WL.box rfl rfl de_ fun g1 w1 hx1 hg1 hB1 => ?_
 have hlt1 := hB1.lt; have hz1 := hx1.size
 have hM1 := hB1.mem; have hz1 := hx1.size; have hE := hE.thenExt hx1
 refine WL.a rfl ?_
 refine WL.nil (hK1 _ _ ?_); try clear hK1
 refine CW.seq fun K2 hK2 => ?_
 refine CW.sr fun K3 hK3 => ?_
 refine WL.v (Y.load1 Tryd.underlying54 rfl hB1.mem.cell0 rfl) ?_
 refine WL.call Tryd.func34 rfl rfl rfl (fmade_any g rb ra ad ns _ (hT.ext hE)) (by simp) ?_; rintro v w2 ⟨rfl, hx2⟩; have hz2 := hx2.size; have hE := hE.thenExt hx2; have hB1 := hB1.ext hx2
 refine WL.v (Y.not rfl) ?_
 refine WL.nil (hK3 _ _ ?_); try clear hK3
 (first | refine cd_ rfl ?_ ?_ | refine ce_ rfl ?_ ?_ | refine cn_ rfl ?_ ?_ | refine cb_ rfl ?_ ?_) <;> intro ht4
 ·
  -- then
  refine CW.sr fun K5 hK5 => ?_
  refine WL.a rfl ?_
  refine WL.nil (hK5 _ _ ?_); try clear hK5
  refine CW.ret ⟨_, rfl, ?_⟩
  exact absurd (show true = false by assumption) de_
 refine CW.skip ?_
 refine hK2 _ _ ?_; try clear hK2
 refine CW.sr fun K6 hK6 => ?_
 refine WL.call Tryd.func18 rfl rfl rfl (fnew0_any _) (by simp) ?_; rintro v10 w3 hR3
 obtain ⟨g2, rb2, ra2, gr, rfl, hg2, hrb2, hra2, hne2, hB2, hMb, hMa, hx3⟩ := hR3
 have hz3 := hx3.size
 have hE := hE.thenExt hx3
 have hB1 := hB1.ext hx3
 have hlt2 := hB2.lt
 have hltb := hMb.lt
 have hlta := hMa.lt
 have hgb : g2 ≠ rb2 := by rintro rfl; exact blk_map hB2 hMb
 have hga : g2 ≠ ra2 := by rintro rfl; exact blk_map hB2 hMa
 refine WL.allocStore1 kr_ rfl (by simp) rfl rfl de_ fun g3 w4 hx4 hg3 hB3 => ?_
 have hlt3 := hB3.lt; have hz4 := hx4.size
 have hM3 := hB3.mem; have hz4 := hx4.size; have hE := hE.thenExt hx4; have hB1 := hB1.ext hx4
 refine WL.nil (hK6 _ _ ?_); try clear hK6
 refine CW.seq fun K7 hK7 => ?_
 refine CW.head 7 kr_ kr_ fun w5 hx5 => ?_
 skip; have hz5 := hx5.size; have hE := hE.thenExt hx5; have hB1 := hB1.ext hx5; have hB3 := hB3.ext hx5
 refine HL.val (Y.load1 Tryd.underlying54 rfl hB3.mem.cell0 rfl) de_ ?_
 refine HL.val (Y.load1 Tryd.underlying54 rfl hB1.mem.cell0 rfl) de_ ?_
 refine HL.val (Y.nilCheck rfl) de_ ?_
 refine HL.val (Y.fieldAddr fo_fugueTree3 rfl) de_ ?_
 refine HL.val (Y.load1 Tryd.underlying3 rfl (hT.ext hE).blk.mem.fugueTree3 rfl) de_ ?_
 refine HL.val (Y.nilCheck rfl) de_ ?_
 refine HL.val (Y.fieldAddr fo_fugueTree3 rfl) de_ ?_
 refine HL.nil ?_
 refine WL.store (g := g2) (pre := [.pointer (some ⟨gr, 0, none⟩), .map (some rb2), .map (some ra2)]) (old := [.int .i64 ((0 : Nat) : Int)]) (post := []) (new := [.int .i64 (liveN ns : Int)]) rfl rfl rfl rfl kr_ ((hB2.ext hx4).ext hx5) ln_ (one1 rfl) (fun w6 hc6 hB6_ => ?_)
 have hz6 := hc6.size; have hE := hE.step hc6 (fun k h => by omega); have hB1 := hB1.chg hc6 no_; have hB3 := hB3.chg hc6 no_
 have hB2 : Blk w6 g2 TF (treeC gr rb2 ra2 (liveN ns)) := hB6_
 have hMb := ((hMb.ext hx4).ext hx5).chg hc6 (fun h => hgb h.symm)
 have hMa := ((hMa.ext hx4).ext hx5).chg hc6 (fun h => hga h.symm)
 refine WL.nil (hK7 _ _ ?_); try clear hK7
 refine CW.seq fun K8 hK8 => ?_
 refine CW.sr fun K9 hK9 => ?_
 refine WL.v (Y.load1 Tryd.underlying54 rfl hB1.mem.cell0 rfl) ?_
 refine WL.v (Y.nilCheck rfl) ?_
 refine WL.v (Y.fieldAddr fo_fugueTree2 rfl) ?_
 refine WL.v (Y.load1 Tryd.underlying73 rfl (hT.ext hE).blk.mem.fugueTree2 rfl) ?_
 refine WL.st (St.range UMA rfl (hMp.ext hE) hold hborn) de_ fun v22 w7 hR7 => ?_
 obtain ⟨r22, rfl, hr22, hGo, hx7⟩ := hR7
 have hz7 := hx7.size
 have hE := hE.thenExt hx7
 have hB1 := hB1.ext hx7
 have hB3 := hB3.ext hx7
 have hB2 := hB2.ext hx7
 have hMb := hMb.ext hx7
 have hMa := hMa.ext hx7
 have hltr := hGo.lt
 refine WL.nil (hK9 _ _ ?_); try clear hK9
 refine CW.block ?_
 refine CW.loop (X := List AE) (fun x => [(1, .pointer (some ⟨g1, 0, none⟩)), (3, .pointer (some ⟨g3, 0, none⟩)), (22, .pointer (some ⟨r22, 0, none⟩))]) (fun x w0 => Going w0 r22 ra AE.me l cl x ∧ Blk w0 g1 TPF [.pointer (some ⟨g, 0, none⟩)] ∧ Blk w0 g3 TPF [.pointer (some ⟨g2, 0, none⟩)] ∧ Blk w0 g2 TF (treeC gr rb2 ra2 (liveN ns)) ∧ MapAt w0 rb2 BE.me ([] : List BE) 0 ∧ MapAt w0 ra2 AE.me (copA 0 x) (0 + x.length) ∧ Ext w w0 ∧ w7.heap.size ≤ w0.heap.size) (fun x => l.length - x.length) [] Fr.ok ⟨hGo, hB1, hB3, hB2, hMb, hMa, hE, Nat.le_refl _⟩ ?_
 intro x w8 hl8
 obtain ⟨hGo, hB1, hB3, hB2, hMb, hMa, hE, hz8⟩ := hl8
 have hltg := hGo.lt
 refine CW.sr fun K10 hK10 => ?_
 refine WL.st (St.next rfl hGo) de_ fun v23 w9 hR9 => ?_
 obtain ⟨bt, rest, rfl, hc9, hcase⟩ := hR9
 have hz9 := hc9.size
 have hE := hE.step hc9 (fun k h => by omega)
 have hB1 := hB1.chg hc9 no_
 have hB3 := hB3.chg hc9 no_
 have hB2 := hB2.chg hc9 no_
 have hMb := hMb.chg hc9 no_
 have hMa := hMa.chg hc9 no_
 refine WL.v (Y.extractT rfl) ?_
 refine WL.nil (hK10 _ _ ?_); try clear hK10
 refine CW.seq fun K11 hK11 => ?_
 (first | refine cd_ rfl ?_ ?_ | refine ce_ rfl ?_ ?_ | refine cn_ rfl ?_ ?_ | refine cb_ rfl ?_ ?_) <;> intro ht12
 ·
  -- then
  refine CW.skip ?_
  refine hK11 _ _ ?_; try clear hK11
  obtain ⟨e, hel2, hev, hGo⟩ : ∃ e, e ∈ l ∧ e ∉ x ∧ Going w9 r22 ra AE.me l cl (x ++ [e]) := by
   rcases hcase with ⟨_, h⟩ | ⟨h, _⟩
   ·
    exact h
   ·
    rw [h] at ht12; cases ht12
  refine CW.block ?_
  refine CW.sr fun K13 hK13 => ?_
  refine WL.v (Y.entry rfl hGo) ?_
  refine WL.v (Y.extract rfl rfl) ?_
  refine WL.v (Y.extract rfl rfl) ?_
  refine as_apiDigest rfl (by simp) de_ fun g4 w10 hx10 hg4 hB4 => ?_
  have hlt4 := hB4.lt; have hz10 := hx10.size
  have hM4 := hB4.mem; have hz10 := hx10.size; have hE := hE.thenExt hx10; have hB1 := hB1.ext hx10; have hB3 := hB3.ext hx10
  refine WL.a rfl ?_
  refine WL.nil (hK13 _ _ ?_); try clear hK13
  refine CW.head 6 kr_ kr_ fun w11 hx11 => ?_
  skip; have hz11 := hx11.size; have hE := hE.thenExt hx11; have hB1 := hB1.ext hx11; have hB3 := hB3.ext hx11; have hB4 := hB4.ext hx11
  refine HL.val (Y.load1 Tryd.underlying54 rfl hB3.mem.cell0 rfl) de_ ?_
  refine HL.val (Y.nilCheck rfl) de_ ?_
  refine HL.val (Y.fieldAddr fo_fugueTree2 rfl) de_ ?_
  refine HL.val (Y.load1 Tryd.underlying73 rfl ((hB2.ext hx10).ext hx11).mem.fugueTree2 rfl) de_ ?_
  refine HL.val (Y.load Tryd.underlying36 rfl hB4.mem (sz_apiDigest _) rfl) de_ ?_
  refine HL.val (Y.move rfl) de_ ?_
  refine HL.nil ?_
  refine WL.su (Su.mapNew (b := ({ e with born := 0 + x.length } : AE)) keyDig (fun _ => rfl) UMA rfl rfl rfl ((hMa.ext hx10).ext hx11) (copA_new hkeys (fun y hy => hGo.sub y (by simp [hy])) hel2 hev) rfl) fun w12 hR12 => ?_
  obtain ⟨hM12, hc12⟩ := hR12
  have hz12 := hc12.size
  have hE := hE.step hc12 (fun k h => by have h : k = ra2 := h; omega)
  have hfl := hGo.few
  rw [List.length_append, List.length_singleton] at hfl
  have hlg := hGo.lt
  refine WL.nil ?_
  refine ⟨x ++ [e], by show l.length - (x ++ [e]).length < l.length - x.length; rw [List.length_append, List.length_singleton]; omega, Fr.ok, ((hGo.ext hx10).ext hx11).chg hc12 no_ no_, hB1.chg hc12 no_, hB3.chg hc12 no_, ((hB2.ext hx10).ext hx11).chg hc12 (fun h => hga h), ((hMb.ext hx10).ext hx11).chg hc12 no_, ?_, hE, by omega⟩
  rw [copA_app, List.length_append, List.length_singleton, ← Nat.add_assoc]
  exact hM12
 refine CW.exit ?_
 refine hK8 _ _ ?_; try clear hK8
 refine CW.seq fun K14 hK14 => ?_
 rcases hcase with ⟨h, _⟩ | ⟨_, hall, hGo⟩
 ·
  rw [h] at ht12; cases ht12
 have hp := hGo.perm hall
 refine CW.region ?_
 refine WL.alloc (hifn) (hzfn) rfl de_ fun g6 w13 hx13 hg6 hB6 => ?_
 have hlt6 := hB6.lt; have hz13 := hx13.size
 have hM6 := hB6.mem; have hz13 := hx13.size; have hE := hE.thenExt hx13; have hB1 := hB1.ext hx13; have hB3 := hB3.ext hx13
 refine WL.nil (hK14 _ _ ?_); try clear hK14
 refine CW.sr fun K15 hK15 => ?_
 refine WL.v (Y.makeFunc rfl) ?_
 refine WL.store (g := g6) (pre := []) (old := [Value.nilFunc]) (post := []) (new := [.func (.func 52) #[] #[.pointer (some ⟨g6, 0, none⟩), .pointer (some ⟨g1, 0, none⟩), .pointer (some ⟨g3, 0, none⟩)]]) rfl rfl rfl rfl kr_ (by simpa using hB6) ln_ (one1 rfl) (fun w14 hc14 hB14_ => ?_)
 have hz14 := hc14.size; have hE := hE.step hc14 (fun k h => by omega); have hB1 := hB1.chg hc14 no_; have hB3 := hB3.chg hc14 no_
 have hB6 : Blk w14 g6 TCf [.func (.func 52) #[] #[.pointer (some ⟨g6, 0, none⟩), .pointer (some ⟨g1, 0, none⟩), .pointer (some ⟨g3, 0, none⟩)]] := by simpa using hB14_
 have hB2 := (hB2.ext hx13).chg hc14 no_
 have hMb := (hMb.ext hx13).chg hc14 no_
 have hMa := (hMa.ext hx13).chg hc14 no_
 have hCp : CpAt w w14 ns g g6 g1 g3 g2 rb2 gr ra2 (liveN ns) [] := {
  ext := hE
  from_ := hB6
  tbox := hB1
  cbox := hB3
  tree := hB2
  map := hMb
  node := fun p hp => by cases hp
  kids := fun p hp => by cases hp
  has := fun p hp => by cases hp
  nodup := List.nodup_nil
  inj := fun p hp => by cases hp
  sep := fun p hp => by cases hp
  low := by omega
  new := fun p hp => by cases hp }
 refine WL.nil (hK15 _ _ ?_); try clear hK15
 refine CW.seq fun K16 hK16 => ?_
 refine CW.held (fun wq => Chg (fun k => k = g2 ∨ k = rb2) w14 wq) kr_ 10 rfl fun w15 hx15 => ?_
 have hS := Ext.chg (S := fun k => k = g2 ∨ k = rb2) hx15
 have hCp := hCp.then hx15
 refine RH.tk 0 hS rfl (fun wq hq => Y.load1 Tryd.underlying54 rfl (hB3.chg hq no_).mem.cell0 rfl) ?_
 refine RH.tk 1 hS rfl (fun wq hq => Y.load1 Tryd.underlying129 rfl (hB6.chg hq no_).mem.cell0 rfl) ?_
 refine RH.tk 2 hS rfl (fun wq hq => Y.load1 Tryd.underlying54 rfl (hB1.chg hq no_).mem.cell0 rfl) ?_
 refine RH.tk 3 hS rfl (fun wq hq => Y.nilCheck rfl) ?_
 refine RH.tk 4 hS rfl (fun wq hq => Y.fieldAddr fo_fugueTree0 rfl) ?_
 refine RH.tk 5 hS rfl (fun wq hq => Y.load1 Tryd.underlying101 rfl (((hT.ext hE).chg hq (fun q hp h => by have := hT.lt hp; omega)).blk.mem.fugueTree0) rfl) ?_
 refine RH.one 6 kr_ ?_
 refine RS.callV rfl rfl Tryd.func52 rfl rfl rfl (fcopy1_any g rb ra ad ns g6 g1 g3 g2 rb2 gr ra2 (liveN ns) w hT hG hn 0 (by have := hG.pos; omega) _ [] hCp (fun p hp => by cases hp)) de_ fun v41 w16 hR16 => ?_
 obtain ⟨X, y, rfl, hX, hyX, hcov, hnew, hc16⟩ := hR16
 rw [List.nil_append] at hX
 have hS := hS.trans hc16 (fun k _ h => .inr h)
 refine ⟨hS, ?_⟩
 refine RH.tk 7 hS rfl (fun wq hq => Y.nilCheck rfl) ?_
 refine RH.tk 8 hS rfl (fun wq hq => Y.fieldAddr fo_fugueTree0 rfl) ?_
 refine RH.one 9 kr_ ?_
 refine RS.store rfl (g := g2) (pre := []) (old := [.pointer (some ⟨gr, 0, none⟩)]) (post := [.map (some rb2), .map (some ra2), .int .i64 (liveN ns : Int)]) (new := [.pointer (some ⟨y.g, 0, none⟩)]) rfl rfl rfl rfl kr_ hX.tree rfl (one1 rfl) (fun w17 hc17 hB17_ => ?_)
 have hS := hS.trans hc17 (fun k _ h => .inl h)
 have hB17 : Blk w17 g2 TF (treeC y.g rb2 ra2 (liveN ns)) := hB17_
 refine ⟨hS, ?_⟩
 refine RH.done kr_ ?_
 have hz17 := hS.size
 have hE := hE.step hS (fun k h => by omega)
 have hB3 := hX.cbox.chg hc17 no_
 have hgD : gD X 0 = y.g := gD_mem hX.nodup hyX
 have hMa16 := (hMa.ext hx15).chg hc16 no_
 have hcov : ∀ i, (∃ p ∈ X, p.1 = i) ↔ i < ns.length := fun i => by rw [hcov i, ← hel]; exact hG.mem
 have hfin := hX.ftAt hT hG hcov hc17 (by rw [hgD]; exact hB17) ⟨_, _, hMa16, fun f hf => (copA_mem hf).choose_spec.2.2.2, copA_born, by rw [copA_k]; exact (hp.map AE.k).nodup_iff.2 hkeys, fun d => by rw [copA_k]; exact (hp.map AE.k).mem_iff.trans (hmem d)⟩ om_
 have hXn := hX.nodup
 have hXw := hX.new
 refine hK16 _ _ ?_; try clear hK16
 refine CW.sr fun K17 hK17 => ?_
 refine WL.v (Y.load1 Tryd.underlying54 rfl hB3.mem.cell0 rfl) ?_
 refine WL.a rfl ?_
 refine WL.nil (hK17 _ _ ?_); try clear hK17
 refine CW.ret ⟨_, rfl, ?_⟩
 exact ⟨g2, rb2, ra2, nsD ns.length X, rfl, hfin.1, hfin.2, (fun q hq => by
  rcases hq with h | h | h | ⟨x, hx, h⟩
  ·
   omega
  ·
   omega
  ·
   omega
  ·
   obtain ⟨p, hp, rfl⟩ := nsD_mem hXn hcov hx
   rcases h with h | ⟨s, h⟩
   ·
    have := (hXw p hp).1; omega
   ·
    exact (hXw p hp).2 s q h), hE⟩
end Go.Proofs.YtmehkigmnpjcjaaDoor
