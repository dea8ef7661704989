/- Parts of a proof: what its last text leans on. No condition. -/
import Derived.Test.YtjbeooimhoilmaaGreatDoorK07
import Derived.Test.YtjbeooimhoilmaaGreatDoorK09
import Derived.Test.YtjbeooimhoilmaaGreatDoorK23
set_option linter.unusedSimpArgs false
set_option linter.unusedVariables false
/- What must come: the texts of two versions, and of both together: alive, walked. No condition but the table of digest.keys. -/
namespace Go.Proofs.YtjbeooimhoilmaaGreatDoor
open Go.RowKit Go.Fw Go.Pl Go.Sort Go.Fu
def dA : Dig := ⟨[103, 39, 190, 109, 200, 245, 252, 100, 35, 38, 142, 176, 228, 9, 156, 198, 222, 165, 110, 116, 50, 72, 108, 164, 4, 134, 240, 226, 20, 255, 95, 253], rfl⟩
def dB : Dig := ⟨[183, 161, 218, 127, 100, 98, 101, 28, 233, 117, 103, 220, 241, 160, 58, 232, 230, 141, 171, 228, 56, 15, 156, 48, 204, 71, 195, 34, 89, 101, 160, 172], rfl⟩
def dC : Dig := ⟨[79, 120, 251, 6, 28, 170, 97, 20, 196, 53, 156, 246, 141, 82, 128, 123, 94, 148, 139, 54, 6, 169, 175, 127, 89, 224, 99, 64, 52, 19, 220, 33], rfl⟩
def oA : List OpD := [⟨1, false, RefD.zero, 104⟩, ⟨1, false, ⟨true, Dig.zero, 1⟩, 105⟩]
def oB : List OpD := [⟨1, false, ⟨false, dA, 2⟩, 33⟩]
def oC : List OpD := [⟨2, false, ⟨false, dA, 1⟩, 0⟩]
def cA : ComD := ⟨[], ⟨#[97]⟩, ByteArray.empty, oA⟩
def cB : ComD := ⟨[dA], ⟨#[98]⟩, ByteArray.empty, oB⟩
def cC : ComD := ⟨[dA], ⟨#[99]⟩, ByteArray.empty, oC⟩
theorem id_cA : idD cA = dA := by decide +kernel
theorem id_cB : idD cB = dB := by decide +kernel
theorem id_cC : idD cC = dC := by decide +kernel
theorem may_cA : mayI cA = 0 := by decide +kernel
theorem may_cB : mayI cB = 0 := by decide +kernel
theorem may_cC : mayI cC = 0 := by decide +kernel
theorem hok_A : HOk [cA] := HOk.nil.snoc ⟨may_cA, (fun h => by cases h), (fun p h => by cases h), fun x hx hr => by
 simp only [cA, oA, List.mem_cons, List.not_mem_nil, or_false] at hx
 rcases hx with rfl | rfl <;> exact absurd hr (by decide)⟩
theorem far_A {m : List ComD} (hm : HOk m) (hl : m.length ≤ 200) (hA : cA ∈ m) (hin : dA ∈ idsH m) {n : Int} (h1 : n = 1 ∨ n = 2) : fndB m [dA] ⟨false, dA, n⟩ = true :=
 (fnd_iff hm hl (fun d hd => by simp at hd; subst hd; exact hin)).2 ⟨cA, hA, id_cA, ⟨dA, by simp, .refl _⟩, by rcases h1 with rfl | rfl <;> decide, by rcases h1 with rfl | rfl <;> decide⟩
theorem hok_B : HOk [cA, cB] := hok_A.snoc ⟨may_cB, (by
 rw [id_cB]; intro h; simp only [List.map_cons, List.map_nil, List.mem_cons, List.not_mem_nil, or_false, id_cA] at h; exact absurd h (by decide)), (fun p h => by
 simp only [cB, List.mem_cons, List.not_mem_nil, or_false] at h; subst h; simp [id_cA]), fun x hx hr => by
 simp only [cB, oB, List.mem_cons, List.not_mem_nil, or_false] at hx
 subst hx
 exact far_A hok_A (by decide) (by simp) (by simp [id_cA]) (.inr rfl)⟩
theorem hok_C : HOk [cA, cB, cC] := hok_B.snoc ⟨may_cC, (by
 rw [id_cC]; intro h; simp only [List.map_cons, List.map_nil, List.mem_cons, List.not_mem_nil, or_false, id_cA, id_cB] at h; exact absurd h (by decide)), (fun p h => by
 simp only [cC, List.mem_cons, List.not_mem_nil, or_false] at h; subst h; simp [id_cA]), fun x hx hr => by
 simp only [cC, oC, List.mem_cons, List.not_mem_nil, or_false] at hx
 subst hx
 exact far_A hok_B (by decide) (by simp) (by simp [id_cA]) (.inl rfl)⟩
theorem nds_C : ndsH [cA, cB, cC] = [⟨dA, []⟩, ⟨dB, [dA]⟩, ⟨dC, [dA]⟩] := by
 simp only [ndsH, List.map_cons, List.map_nil, ndH, id_cA, id_cB, id_cC]; rfl
theorem sortedD_is9 {l m : List Dig} (hl : l.Nodup) (hm : Up m) (h : ∀ x, x ∈ l ↔ x ∈ m) : sortedD l = m := up_eq (sortedD_up hl) hm fun x => by rw [sortedD_mem, h]
theorem hd_C : hdL (ndsH [cA, cB, cC]) [dB, dC] = [dC, dB] := by
 rw [nds_C]
 have h : headsD [⟨dA, []⟩, ⟨dB, [dA]⟩, ⟨dC, [dA]⟩] (mark0 [⟨dA, []⟩, ⟨dB, [dA]⟩, ⟨dC, [dA]⟩] [dB, dC]) 3 (List.replicate 3 false) [] = [dC, dB] := by decide +kernel
 show headsL _ _ = _
 rw [headsL]
 show sortedD (headsD _ _ 3 (List.replicate 3 false) []) = _
 rw [h]
 exact sortedD_is9 (by decide +kernel) (by decide +kernel) fun x => Iff.rfl
theorem tx_C {ids : List Dig} (h : ∀ d ∈ ids, d = dA ∨ d = dB ∨ d = dC) : txE [cA, cB, cC] ids = 0 := txE_ok.2 ⟨by decide, hok_C, fun d hd => by
 simp only [List.map_cons, List.map_nil, List.mem_cons, List.not_mem_nil, or_false, id_cA, id_cB, id_cC]
 exact h d hd⟩
theorem mg_C : mgE [cA, cB, cC] [dB] [dC] = 0 ∧ mgL [cA, cB, cC] [dB] [dC] = [dC, dB] := by
 have e : mgE [cA, cB, cC] [dB] [dC] = 0 := mgE_ok.2 ⟨tx_C fun d hd => by simp at hd; rcases hd with rfl | rfl <;> simp, by show (hdL (ndsH [cA, cB, cC]) [dB, dC]).length ≤ 8; rw [hd_C]; decide⟩
 refine ⟨e, ?_⟩
 rw [mgL, if_pos e]
 exact hd_C
theorem rd_A : (rdH [cA]).2 = 0 := rdH_ok.2 ⟨by decide, hok_A⟩
theorem rd_C : (rdH [cA, cB, cC]).2 = 0 := rdH_ok.2 ⟨by decide, hok_C⟩
abbrev TCo : TypeId := 48
abbrev TOp9 : TypeId := 70
theorem run_bs3 {P : Program} {t e : TypeId} {ie : TypeInfo} {z : Value} {a b c : Value} (hu : P.underlying t = some (.slice e)) (hi : P.info? e = some ie) (hz : ie.zero = some z) (h0 : 0 < ie.size) (hl : ie.size ≤ 4096) (ha : a.cells.size = ie.size) (hb : b.cells.size = ie.size) (hc : c.cells.size = ie.size) (w : World) :
  (Instr.buildSlice t 3 [(0, a), (1, b), (2, c)].toArray).run P w = .ok (.slice (some ⟨w.heap.size, 0, none⟩) 3 3) (w.alloc (.cells ([a, b, c].flatMap fun v => v.cells.toList).toArray e)) := by
 refine run_buildSlice w t e 3 _ _ ie z hu hi hz (by omega) (by omega) ?_
 have h := Go.Great.fill_whole (s := ie.size) h0 [a, b, c] ((Array.range (3 * ie.size)).map (z.cells[· % z.cells.size]!)) (by intro u hu; simp at hu; rcases hu with rfl | rfl | rfl <;> assumption) (by simp)
 simpa using h
theorem bs1_co (x : CoV) (w : World) : (Instr.buildSlice 22 1 [(0, coV x)].toArray).run Tryz.prog w = .ok (.slice (some ⟨w.heap.size, 0, none⟩) 1 1) (w.alloc (.cells (([x].map coC).flatten).toArray TCo)) := by
 obtain ⟨i, hi, hz, hs⟩ := info_apiCommitH
 have h := run_bs1 (P := Tryz.prog) (v := coV x) Tryz.underlying22 hi hz (by omega) (by omega) rfl (by rw [hs]; rfl) w
 simpa using h
theorem bs3_co (x y z : CoV) (w : World) : (Instr.buildSlice 22 3 [(0, coV x), (1, coV y), (2, coV z)].toArray).run Tryz.prog w = .ok (.slice (some ⟨w.heap.size, 0, none⟩) 3 3) (w.alloc (.cells (([x, y, z].map coC).flatten).toArray TCo)) := by
 obtain ⟨i, hi, hz, hs⟩ := info_apiCommitH
 have h1 : ∀ x : CoV, (coV x).cells.size = i.size := fun x => by rw [hs]; rfl
 exact run_bs3 (P := Tryz.prog) Tryz.underlying22 hi hz (by omega) (by omega) (h1 x) (h1 y) (h1 z) w
theorem bs1_op9 (x : OpD) (w : World) : (Instr.buildSlice 46 1 [(0, opV x)].toArray).run Tryz.prog w = .ok (.slice (some ⟨w.heap.size, 0, none⟩) 1 1) (w.alloc (.cells (opC x).toArray TOp9)) := by
 obtain ⟨i, z, hi, hz, hk, _⟩ := ai_op
 exact run_bs1 Tryz.underlying46 hi hz (by omega) (by omega) rfl (by rw [opC_length, hk]) w
theorem build_oA1 (w : World) : (Instr.build TOp9 [(0, .int .i64 1), (3, .int .u8 104)].toArray).run Tryz.prog w = .ok (opV ⟨1, false, RefD.zero, 104⟩) w := run_build w _ _ _ (by kernel_rfl)
theorem build_rA (w : World) : (Instr.build 68 [(0, .bool true), (2, .int .i64 1)].toArray).run Tryz.prog w = .ok (refV ⟨true, Dig.zero, 1⟩) w := run_build w _ _ _ (by kernel_rfl)
theorem build_oA2 (w : World) : (Instr.build TOp9 [(0, .int .i64 1), (3, .int .u8 105), (2, refV ⟨true, Dig.zero, 1⟩)].toArray).run Tryz.prog w = .ok (opV ⟨1, false, ⟨true, Dig.zero, 1⟩, 105⟩) w := run_build w _ _ _ (by kernel_rfl)
theorem build_cA (A : Option Addr) (w : World) : (Instr.build TCo [(1, .string ⟨#[97]⟩), (3, .slice A 2 2)].toArray).run Tryz.prog w = .ok (coV ⟨cA, none, 0, A, 2⟩) w := run_build w _ _ _ (by kernel_rfl)
theorem build_rD (n : Int) (w : World) : (Instr.build 68 [(1, digV dA), (2, .int .i64 n)].toArray).run Tryz.prog w = .ok (refV ⟨false, dA, n⟩) w := run_build w _ _ _ (by kernel_rfl)
theorem build_oB (w : World) : (Instr.build TOp9 [(0, .int .i64 1), (3, .int .u8 33), (2, refV ⟨false, dA, 2⟩)].toArray).run Tryz.prog w = .ok (opV ⟨1, false, ⟨false, dA, 2⟩, 33⟩) w := run_build w _ _ _ (by kernel_rfl)
theorem build_oC (w : World) : (Instr.build TOp9 [(0, .int .i64 2), (2, refV ⟨false, dA, 1⟩)].toArray).run Tryz.prog w = .ok (opV ⟨2, false, ⟨false, dA, 1⟩, 0⟩) w := run_build w _ _ _ (by kernel_rfl)
theorem build_cB (A B : Option Addr) (w : World) : (Instr.build TCo [(1, .string ⟨#[98]⟩), (0, .slice A 1 1), (3, .slice B 1 1)].toArray).run Tryz.prog w = .ok (coV ⟨cB, A, 1, B, 1⟩) w := run_build w _ _ _ (by kernel_rfl)
theorem build_cC (A B : Option Addr) (w : World) : (Instr.build TCo [(1, .string ⟨#[99]⟩), (0, .slice A 1 1), (3, .slice B 1 1)].toArray).run Tryz.prog w = .ok (coV ⟨cC, A, 1, B, 1⟩) w := run_build w _ _ _ (by kernel_rfl)
theorem Blk.own9 {w : World} {g k m : Nat} {t : TypeId} {cs : List Value} (h : Blk w g t cs) (hl : cs.length = m * k) (hm : m ≤ maxLen) : Own w t k (.slice (some ⟨g, 0, none⟩) m m) cs := .inr ⟨g, m, m, [], (0, 0), rfl, (by have h9 : w.heap[g]? = _ := h; simpa using h9), by simp [hl], by omega, hm, by simp [hl], fun o _ => by simp⟩
theorem Blk.sl9 {w : World} {g k m : Nat} {t : TypeId} {α : Type} {enc : α → List Value} {l : List α} (h : Blk w g t ((l.map enc).flatten)) (he : ∀ x, (enc x).length = k) (hl : l.length = m) (hm : m ≤ 100) (hk : 0 < k) : Sl w enc k (.slice (some ⟨g, 0, none⟩) m m) l :=
 (Blk.own9 h (by rw [flat_length he, hl]) (by unfold maxLen; omega)).sl he hk
theorem co_A {w : World} {g : Nat} (h : Blk w g TOp9 (opC ⟨1, false, RefD.zero, 104⟩ ++ opC ⟨1, false, ⟨true, Dig.zero, 1⟩, 105⟩)) : CoAt w ⟨cA, none, 0, some ⟨g, 0, none⟩, 2⟩ :=
 ⟨Sl.nil, Blk.sl9 (l := oA) (by simpa [oA] using h) opC_length rfl (Nat.le_of_ble_eq_true rfl) (by decide), by show cA.author.size ≤ maxLen; unfold maxLen; decide, by show cA.note.size ≤ maxLen; unfold maxLen; decide⟩
theorem co_B {w : World} {g g2 : Nat} (hd : Blk w g 43 (digC dA)) (h : Blk w g2 TOp9 (opC ⟨1, false, ⟨false, dA, 2⟩, 33⟩)) : CoAt w ⟨cB, some ⟨g, 0, none⟩, 1, some ⟨g2, 0, none⟩, 1⟩ :=
 ⟨Blk.sl9 (l := [dA]) (by simpa using hd) digC_length rfl (Nat.le_of_ble_eq_true rfl) (by decide), Blk.sl9 (l := oB) (by simpa [oB] using h) opC_length rfl (Nat.le_of_ble_eq_true rfl) (by decide), by show cB.author.size ≤ maxLen; unfold maxLen; decide, by show cB.note.size ≤ maxLen; unfold maxLen; decide⟩
theorem co_C {w : World} {g g2 : Nat} (hd : Blk w g 43 (digC dA)) (h : Blk w g2 TOp9 (opC ⟨2, false, ⟨false, dA, 1⟩, 0⟩)) : CoAt w ⟨cC, some ⟨g, 0, none⟩, 1, some ⟨g2, 0, none⟩, 1⟩ :=
 ⟨Blk.sl9 (l := [dA]) (by simpa using hd) digC_length rfl (Nat.le_of_ble_eq_true rfl) (by decide), Blk.sl9 (l := oC) (by simpa [oC] using h) opC_length rfl (Nat.le_of_ble_eq_true rfl) (by decide), by show cC.author.size ≤ maxLen; unfold maxLen; decide, by show cC.note.size ≤ maxLen; unfold maxLen; decide⟩
theorem ys_one {ys : List NdV} {n : Nd} (h : ndsL ys = [n]) : ∃ A c, ys = [⟨n, A, c⟩] := by
 match ys, h with
 | [⟨m, A, c⟩], h => simp at h; subst h; exact ⟨A, c, rfl⟩
 | [], h => simp at h
 | _ :: _ :: _, h => simp at h
theorem ys_three {ys : List NdV} {n m k : Nd} (h : ndsL ys = [n, m, k]) : ∃ A c B d C e, ys = [⟨n, A, c⟩, ⟨m, B, d⟩, ⟨k, C, e⟩] := by
 match ys, h with
 | [⟨_, A, c⟩, ⟨_, B, d⟩, ⟨_, C, e⟩], h => simp at h; obtain ⟨rfl, rfl, rfl⟩ := h; exact ⟨A, c, B, d, C, e, rfl⟩
 | [], h => simp at h
 | [_], h => simp at h
 | [_, _], h => simp at h
 | _ :: _ :: _ :: _ :: _, h => simp at h
theorem nds_A : ndsH [cA] = [⟨dA, []⟩] := by simp only [ndsH, List.map_cons, List.map_nil, ndH, id_cA]; rfl
theorem text_C : textE (addT (addT (addT Tr.new dA oA) dB oB) dC oC).e = [105, 33] := by decide +kernel
theorem txL_C : txL [cA, cB, cC] [dC, dB] = [105, 33] := by
 have hin : ∀ d ∈ [dC, dB], d = dA ∨ d = dB ∨ d = dC := fun d hd => by simp at hd; rcases hd with rfl | rfl <;> simp
 have t := tx_C hin
 rw [txL, if_pos t, trH]
 have step : ∀ x, x ∈ [dC, dB] → Under (ndsH [cA, cB, cC]) [dC, dB] x := fun x hx => ⟨x, hx, .refl _⟩
 have uA : Under (ndsH [cA, cB, cC]) [dC, dB] dA := ⟨dB, by simp, by
  rw [nds_C]
  exact .step (n := ⟨dB, [dA]⟩) (by simp) (by simp) (.refl _)⟩
 show textE (trK [cA, cB, cC] _ 3).e = _
 rw [trK_yes (c := cC) rfl (by rw [id_cC]; exact step _ (by simp)), trK_yes (c := cB) rfl (by rw [id_cB]; exact step _ (by simp)), trK_yes (c := cA) rfl (by rw [id_cA]; exact uA), id_cA, id_cB, id_cC]
 exact text_C
set_option maxRecDepth 100000 in
set_option maxHeartbeats 4000000 in
theorem halive_any (w : World) (hK : Mem w ⟨0, 0, none⟩ (wds keysL)) : Calls Tryz.prog 10 #[] w (Ret fun v w' => v = .bool true ∧ Ext w w') := by
 refine calls_of_CW 102 [0] [] Tryz.func10 rfl rfl rfl (by simp) args0 ?_
 have hE : Ext w w := Chg.refl
 refine CW.sr fun K1 hK1 => ?_
 refine WL.a rfl ?_
 refine WL.nil (hK1 _ _ ?_); try clear hK1 K1
 refine CW.sr fun K2 hK2 => ?_
 refine WL.v (Y.build rfl (build_oA1 _)) ?_
 refine WL.v (Y.build rfl (build_rA _)) ?_
 refine WL.v (Y.build rfl (build_oA2 _)) ?_
 refine WL.st (St.buildSlice rfl (bs2_op _ _)) (by decide) fun v17 w1 hR1 => ?_
 obtain ⟨g17, rfl, hg17, hB17, hx1⟩ := hR1
 have hz1 := hx1.size
 have hE := hE.thenExt hx1
 refine WL.v (Y.build rfl (build_cA _ _)) ?_
 refine as_apiCommit rfl (by simp) (by decide) fun g1 w2 hx2 hg1 hB1 => ?_
 have hlt1 := hB1.lt; have hz2 := hx2.size
 have hM1 := hB1.mem; have hz2 := hx2.size; have hE := hE.thenExt hx2
 refine WL.nil (hK2 _ _ ?_); try clear hK2 K2
 refine CW.sr fun K3 hK3 => ?_
 refine WL.v (Y.load Tryz.underlying48 rfl hB1.mem (sz_apiCommit _ _ _ _) rfl) ?_
 refine WL.st (St.buildSlice rfl (bs1_co (⟨cA, none, 0, some ⟨g17, 0, none⟩, 2⟩ : CoV))) (by decide) fun v21 w3 hR3 => ?_
 obtain ⟨g21, rfl, hg21, hB21, hx3⟩ := hR3
 have hz3 := hx3.size
 have hE := hE.thenExt hx3
 have hB1 := hB1.ext hx3
 have hB17 := (hB17.ext hx2).ext hx3
 have hl1 : Hcs w3 (.slice (some ⟨g21, 0, none⟩) 1 1) [(⟨cA, none, 0, some ⟨g17, 0, none⟩, 2⟩ : CoV)] := ⟨Blk.sl9 hB21 coC_length rfl (by decide) (by decide), fun x hx => by simp at hx; subst hx; exact co_A hB17⟩
 refine WL.call Tryz.func13 rfl rfl rfl (hnodes_any _ [(⟨cA, none, 0, some ⟨g17, 0, none⟩, 2⟩ : CoV)] _ hl1 (hK.ext hE)) (by simp) ?_; rintro v22 w4 hR4
 obtain ⟨A, c, ys, rfl, hQ, hys, hx4⟩ := hR4
 have hz4 := hx4.size
 have hE := hE.thenExt hx4
 have hB1 := hB1.ext hx4
 have hB17 := hB17.ext hx4
 rw [show (rdH (csL [(⟨cA, none, 0, some ⟨g17, 0, none⟩, 2⟩ : CoV)])).2 = 0 from rd_A] at hys ⊢
 rw [if_pos rfl, show ndsH (csL [(⟨cA, none, 0, some ⟨g17, 0, none⟩, 2⟩ : CoV)]) = [⟨dA, []⟩] from nds_A] at hys
 obtain ⟨yA, yc, rfl⟩ := ys_one hys
 obtain ⟨aN, rfl, hmN⟩ := hQ.nds.sl.at (i := 0) rfl
 refine WL.m rfl ?_
 refine WL.v (Y.extract rfl rfl) ?_
 refine WL.v (Y.extract rfl rfl) ?_
 refine WL.a rfl ?_
 refine WL.a rfl ?_
 refine WL.nil (hK3 _ _ ?_); try clear hK3 K3
 refine CW.seq fun K4 hK4 => ?_
 refine CW.seq_test 31 (False) ?_ ?_
 ·
  refine CW.region ?_
  refine WL.m rfl ?_
  refine WL.v (Y.neq rfl rfl) ?_
  refine WL.m rfl ?_
  refine WL.know (d := 27) (u := .bool false) rfl (rfl) ?_
  refine WL.g rfl rfl (Y.move rfl) ?_
  refine WL.g rfl rfl (Y.len_slice Tryz.underlying37 rfl) ?_
  refine WL.g rfl rfl (Y.neq rfl rfl) ?_
  refine WL.v (Y.pick rfl rfl) ?_
  refine WL.nil ⟨⟨_, rfl, ?_⟩, rfl, Fr.okp⟩
  simp
 (first | refine CW.condD rfl ?_ ?_ | refine CW.condND rfl ?_ ?_ | refine CW.condN rfl ?_ ?_ | refine CW.cond rfl ?_ ?_) <;> intro ht5
 ·
  -- then
  refine CW.sr fun K6 hK6 => ?_
  refine WL.a rfl ?_
  refine WL.nil (hK6 _ _ ?_); try clear hK6 K6
  refine CW.ret ⟨_, rfl, ?_⟩
  exact ht5.elim
 refine CW.skip ?_
 refine hK4 _ _ ?_; try clear hK4 K4
 refine CW.sr fun K7 hK7 => ?_
 refine WL.m rfl ?_
 refine WL.v (Y.indexAddrN (i := 0) Tryz.underlying37 rfl rfl sz0_apiNode (by simp)) ?_
 refine WL.v (Y.fieldAddr fo_apiNode0 rfl) ?_
 refine WL.v (Y.load Tryz.underlying43 rfl hmN.node0 (sz_apiDigest _) rfl) ?_
 refine as_apiDigest rfl (by simp) (by decide) fun g4 w5 hx5 hg4 hB4 => ?_
 have hlt4 := hB4.lt; have hz5 := hx5.size
 have hM4 := hB4.mem; have hz5 := hx5.size; have hE := hE.thenExt hx5; have hB1 := hB1.ext hx5
 refine WL.nil (hK7 _ _ ?_); try clear hK7 K7
 refine CW.sr fun K8 hK8 => ?_
 refine WL.v (Y.load Tryz.underlying43 rfl hB4.mem (sz_apiDigest _) rfl) ?_
 refine WL.st (St.buildSlice rfl (bs1_dig dA)) (by decide) fun v37 w6 hR6 => ?_
 obtain ⟨g37, rfl, hg37, hB37, hx6⟩ := hR6
 have hz6 := hx6.size
 have hE := hE.thenExt hx6
 have hB1 := hB1.ext hx6
 have hB4 := hB4.ext hx6
 have hB17 := (hB17.ext hx5).ext hx6
 refine WL.v (Y.load Tryz.underlying43 rfl hB4.mem (sz_apiDigest _) rfl) ?_
 refine WL.v (Y.build rfl (build_rD 2 _)) ?_
 refine WL.v (Y.build rfl (build_oB _)) ?_
 refine WL.st (St.buildSlice rfl (bs1_op9 _)) (by decide) fun v41 w7 hR7 => ?_
 obtain ⟨g41, rfl, hg41, hB41, hx7⟩ := hR7
 have hz7 := hx7.size
 have hE := hE.thenExt hx7
 have hB1 := hB1.ext hx7
 have hB4 := hB4.ext hx7
 have hB17 := hB17.ext hx7
 have hB37 := hB37.ext hx7
 refine WL.v (Y.build rfl (build_cB _ _ _)) ?_
 refine as_apiCommit rfl (by simp) (by decide) fun g5 w8 hx8 hg5 hB5 => ?_
 have hlt5 := hB5.lt; have hz8 := hx8.size
 have hM5 := hB5.mem; have hz8 := hx8.size; have hE := hE.thenExt hx8; have hB1 := hB1.ext hx8; have hB4 := hB4.ext hx8
 refine WL.nil (hK8 _ _ ?_); try clear hK8 K8
 refine CW.sr fun K9 hK9 => ?_
 refine WL.v (Y.load Tryz.underlying43 rfl hB4.mem (sz_apiDigest _) rfl) ?_
 refine WL.st (St.buildSlice rfl (bs1_dig dA)) (by decide) fun v44 w9 hR9 => ?_
 obtain ⟨g44, rfl, hg44, hB44, hx9⟩ := hR9
 have hz9 := hx9.size
 have hE := hE.thenExt hx9
 have hB1 := hB1.ext hx9
 have hB4 := hB4.ext hx9
 have hB5 := hB5.ext hx9
 have hB17 := (hB17.ext hx8).ext hx9
 have hB37 := (hB37.ext hx8).ext hx9
 have hB41 := (hB41.ext hx8).ext hx9
 refine WL.v (Y.load Tryz.underlying43 rfl hB4.mem (sz_apiDigest _) rfl) ?_
 refine WL.v (Y.build rfl (build_rD 1 _)) ?_
 refine WL.v (Y.build rfl (build_oC _)) ?_
 refine WL.st (St.buildSlice rfl (bs1_op9 _)) (by decide) fun v48 w10 hR10 => ?_
 obtain ⟨g48, rfl, hg48, hB48, hx10⟩ := hR10
 have hz10 := hx10.size
 have hE := hE.thenExt hx10
 have hB1 := hB1.ext hx10
 have hB4 := hB4.ext hx10
 have hB5 := hB5.ext hx10
 have hB17 := hB17.ext hx10
 have hB37 := hB37.ext hx10
 have hB41 := hB41.ext hx10
 have hB44 := hB44.ext hx10
 refine WL.v (Y.build rfl (build_cC _ _ _)) ?_
 refine as_apiCommit rfl (by simp) (by decide) fun g6 w11 hx11 hg6 hB6 => ?_
 have hlt6 := hB6.lt; have hz11 := hx11.size
 have hM6 := hB6.mem; have hz11 := hx11.size; have hE := hE.thenExt hx11; have hB1 := hB1.ext hx11; have hB4 := hB4.ext hx11; have hB5 := hB5.ext hx11
 refine WL.nil (hK9 _ _ ?_); try clear hK9 K9
 refine CW.sr fun K10 hK10 => ?_
 refine WL.v (Y.load Tryz.underlying48 rfl hB1.mem (sz_apiCommit _ _ _ _) rfl) ?_
 refine WL.v (Y.load Tryz.underlying48 rfl hB5.mem (sz_apiCommit _ _ _ _) rfl) ?_
 refine WL.v (Y.load Tryz.underlying48 rfl hB6.mem (sz_apiCommit _ _ _ _) rfl) ?_
 refine WL.st (St.buildSlice rfl (bs3_co (⟨cA, none, 0, some ⟨g17, 0, none⟩, 2⟩ : CoV) (⟨cB, some ⟨g37, 0, none⟩, 1, some ⟨g41, 0, none⟩, 1⟩ : CoV) (⟨cC, some ⟨g44, 0, none⟩, 1, some ⟨g48, 0, none⟩, 1⟩ : CoV))) (by decide) fun v53 w12 hR12 => ?_
 obtain ⟨g53, rfl, hg53, hB53, hx12⟩ := hR12
 have hz12 := hx12.size
 have hE := hE.thenExt hx12
 have hB1 := hB1.ext hx12
 have hB4 := hB4.ext hx12
 have hB5 := hB5.ext hx12
 have hB6 := hB6.ext hx12
 have hB17 := (hB17.ext hx11).ext hx12
 have hB37 := (hB37.ext hx11).ext hx12
 have hB41 := (hB41.ext hx11).ext hx12
 have hB44 := (hB44.ext hx11).ext hx12
 have hB48 := (hB48.ext hx11).ext hx12
 have hl3 : Hcs w12 (.slice (some ⟨g53, 0, none⟩) 3 3) [(⟨cA, none, 0, some ⟨g17, 0, none⟩, 2⟩ : CoV), (⟨cB, some ⟨g37, 0, none⟩, 1, some ⟨g41, 0, none⟩, 1⟩ : CoV), (⟨cC, some ⟨g44, 0, none⟩, 1, some ⟨g48, 0, none⟩, 1⟩ : CoV)] := ⟨Blk.sl9 hB53 coC_length rfl (by decide) (by decide), fun x hx => by
  simp only [List.mem_cons, List.not_mem_nil, or_false] at hx
  rcases hx with rfl | rfl | rfl
  ·
   exact co_A hB17
  ·
   exact co_B hB37 hB41
  ·
   exact co_C hB44 hB48⟩
 refine WL.a rfl ?_
 refine WL.nil (hK10 _ _ ?_); try clear hK10 K10
 refine CW.sr fun K11 hK11 => ?_
 refine WL.m rfl ?_
 refine WL.call Tryz.func13 rfl rfl rfl (hnodes_any _ [(⟨cA, none, 0, some ⟨g17, 0, none⟩, 2⟩ : CoV), (⟨cB, some ⟨g37, 0, none⟩, 1, some ⟨g41, 0, none⟩, 1⟩ : CoV), (⟨cC, some ⟨g44, 0, none⟩, 1, some ⟨g48, 0, none⟩, 1⟩ : CoV)] _ hl3 (hK.ext hE)) (by simp) ?_; rintro v56 w13 hR13
 obtain ⟨A3, c3, ys3, rfl, hQ3, hys3, hx13⟩ := hR13
 have hz13 := hx13.size
 have hE := hE.thenExt hx13
 have hB1 := hB1.ext hx13
 have hB4 := hB4.ext hx13
 have hB5 := hB5.ext hx13
 have hB6 := hB6.ext hx13
 have hl3 := hl3.ext hx13
 rw [show (rdH (csL [(⟨cA, none, 0, some ⟨g17, 0, none⟩, 2⟩ : CoV), (⟨cB, some ⟨g37, 0, none⟩, 1, some ⟨g41, 0, none⟩, 1⟩ : CoV), (⟨cC, some ⟨g44, 0, none⟩, 1, some ⟨g48, 0, none⟩, 1⟩ : CoV)])).2 = 0 from rd_C] at hys3 ⊢
 rw [if_pos rfl, show ndsH (csL [(⟨cA, none, 0, some ⟨g17, 0, none⟩, 2⟩ : CoV), (⟨cB, some ⟨g37, 0, none⟩, 1, some ⟨g41, 0, none⟩, 1⟩ : CoV), (⟨cC, some ⟨g44, 0, none⟩, 1, some ⟨g48, 0, none⟩, 1⟩ : CoV)]) = [⟨dA, []⟩, ⟨dB, [dA]⟩, ⟨dC, [dA]⟩] from nds_C] at hys3
 obtain ⟨yA1, yc1, yA2, yc2, yA3, yc3, rfl⟩ := ys_three hys3
 obtain ⟨aM, rfl, hmM⟩ := hQ3.nds.sl.at (i := 1) rfl
 obtain ⟨aM2, haM, hmM2⟩ := hQ3.nds.sl.at (i := 2) rfl
 cases haM
 refine WL.m rfl ?_
 refine WL.v (Y.extract rfl rfl) ?_
 refine WL.v (Y.extract rfl rfl) ?_
 refine WL.a rfl ?_
 refine WL.a rfl ?_
 refine WL.nil (hK11 _ _ ?_); try clear hK11 K11
 refine CW.seq fun K12 hK12 => ?_
 refine CW.seq_test 65 (False) ?_ ?_
 ·
  refine CW.region ?_
  refine WL.m rfl ?_
  refine WL.v (Y.neq rfl rfl) ?_
  refine WL.m rfl ?_
  refine WL.know (d := 61) (u := .bool false) rfl (rfl) ?_
  refine WL.g rfl rfl (Y.move rfl) ?_
  refine WL.g rfl rfl (Y.len_slice Tryz.underlying37 rfl) ?_
  refine WL.g rfl rfl (Y.neq rfl rfl) ?_
  refine WL.v (Y.pick rfl rfl) ?_
  refine WL.nil ⟨⟨_, rfl, ?_⟩, rfl, Fr.okp⟩
  simp
 (first | refine CW.condD rfl ?_ ?_ | refine CW.condND rfl ?_ ?_ | refine CW.condN rfl ?_ ?_ | refine CW.cond rfl ?_ ?_) <;> intro ht13
 ·
  -- then
  refine CW.sr fun K14 hK14 => ?_
  refine WL.a rfl ?_
  refine WL.nil (hK14 _ _ ?_); try clear hK14 K14
  refine CW.ret ⟨_, rfl, ?_⟩
  exact ht13.elim
 refine CW.skip ?_
 refine hK12 _ _ ?_; try clear hK12 K12
 refine CW.seq_to (X := Value) (fun v => [(7, .slice (some ⟨g53, 0, none⟩) 3 3), (10, v), (11, .int .i64 0)]) (fun v w0 => Own w0 TDg 32 v (flatD [dC, dB]) ∧ Ext w13 w0) ?_ ?_
 ·
  skip
  refine CW.held (fun wq => Ext w13 wq) (by kernel_rfl) 17 rfl fun w14 hS => ?_
  refine RH.tk 0 hS rfl (fun wq hq => Y.move rfl) ?_
  refine RH.tk 1 hS rfl (fun wq hq => Y.move rfl) ?_
  refine RH.tk 2 hS rfl (fun wq hq => Y.indexAddrN (i := 1) Tryz.underlying37 rfl rfl sz0_apiNode (by simp)) ?_
  refine RH.tk 3 hS rfl (fun wq hq => Y.fieldAddr fo_apiNode0 rfl) ?_
  refine RH.tk 4 hS rfl (fun wq hq => Y.load Tryz.underlying43 rfl (hmM.ext hq).node0 (sz_apiDigest _) rfl) ?_
  refine RH.tk 6 hS rfl (fun wq hq => Y.move rfl) ?_
  refine RH.tk 7 hS rfl (fun wq hq => Y.indexAddrN (i := 2) Tryz.underlying37 rfl rfl sz0_apiNode (by simp)) ?_
  refine RH.tk 8 hS rfl (fun wq hq => Y.fieldAddr fo_apiNode0 rfl) ?_
  refine RH.tk 9 hS rfl (fun wq hq => Y.load Tryz.underlying43 rfl (hmM2.ext hq).node0 (sz_apiDigest _) rfl) ?_
  refine RH.two 5 10 (by kernel_rfl) ?_ ?_
  ·
   skip
   refine RS.st rfl (St.buildSlice rfl (bs1_dig dB)) (by decide) fun v72 w15 hR15 => ?_
   obtain ⟨g72, rfl, hg72, hB72, hx_1⟩ := hR15
   have hz_1 := hx_1.size
   have hS := hS.thenExt hx_1
   refine ⟨hS, ?_⟩
   refine RH.one 10 (by kernel_rfl) ?_
   refine RS.st rfl (St.buildSlice rfl (bs1_dig dC)) (by decide) fun v77 w16 hR16 => ?_
   obtain ⟨g77, rfl, hg77, hB77, hx_2⟩ := hR16
   have hz_2 := hx_2.size
   have hS := hS.thenExt hx_2
   have hB72 := hB72.ext hx_2
   refine ⟨hS, ?_⟩
   refine RH.one 11 (by kernel_rfl) ?_
   refine RS.call rfl (fun _ _ h => by cases h) Tryz.func7 rfl rfl rfl (hmerge_any _ _ _ [(⟨cA, none, 0, some ⟨g17, 0, none⟩, 2⟩ : CoV), (⟨cB, some ⟨g37, 0, none⟩, 1, some ⟨g41, 0, none⟩, 1⟩ : CoV), (⟨cC, some ⟨g44, 0, none⟩, 1, some ⟨g48, 0, none⟩, 1⟩ : CoV)] [dB] [dC] _ (hl3.ext hS) (Blk.sl9 (l := [dB]) (by simpa using hB72) digC_length rfl (by decide) (by decide)) (Blk.sl9 (l := [dC]) (by simpa using hB77) digC_length rfl (by decide) (by decide)) (by decide) (hK.ext (hE.thenExt hS))) (by decide) fun v78 w17 hR17 => ?_
   obtain ⟨hv, rfl, hO, hfu, hx_3⟩ := hR17
   have hS := hS.thenExt hx_3
   rw [show mgE (csL [(⟨cA, none, 0, some ⟨g17, 0, none⟩, 2⟩ : CoV), (⟨cB, some ⟨g37, 0, none⟩, 1, some ⟨g41, 0, none⟩, 1⟩ : CoV), (⟨cC, some ⟨g44, 0, none⟩, 1, some ⟨g48, 0, none⟩, 1⟩ : CoV)]) [dB] [dC] = 0 from mg_C.1]
   rw [show mgL (csL [(⟨cA, none, 0, some ⟨g17, 0, none⟩, 2⟩ : CoV), (⟨cB, some ⟨g37, 0, none⟩, 1, some ⟨g41, 0, none⟩, 1⟩ : CoV), (⟨cC, some ⟨g44, 0, none⟩, 1, some ⟨g48, 0, none⟩, 1⟩ : CoV)]) [dB] [dC] = [dC, dB] from mg_C.2] at hO
   refine ⟨hS, ?_⟩
   refine RH.tk 12 hS rfl (fun wq hq => Y.move rfl) ?_
   refine RH.tk 13 hS rfl (fun wq hq => Y.extract rfl rfl) ?_
   refine RH.tk 14 hS rfl (fun wq hq => Y.extract rfl rfl) ?_
   refine RH.tk 15 hS rfl (fun wq hq => Y.assign rfl) ?_
   refine RH.tk 16 hS rfl (fun wq hq => Y.assign rfl) ?_
   refine RH.done (by kernel_rfl) ?_
   have hx18 := hS; have hz18 := hx18.size; have hE := hE.thenExt hx18; have hB1 := hB1.ext hx18; have hB4 := hB4.ext hx18; have hB5 := hB5.ext hx18; have hB6 := hB6.ext hx18
   exact ⟨hv, Fr.ok, hO, hS⟩
  ·
   skip
   refine RS.st rfl (St.buildSlice rfl (bs1_dig dC)) (by decide) fun v77 w19 hR19 => ?_
   obtain ⟨g77, rfl, hg77, hB77, hx_2⟩ := hR19
   have hz_2 := hx_2.size
   have hS := hS.thenExt hx_2
   refine ⟨hS, ?_⟩
   refine RH.one 5 (by kernel_rfl) ?_
   refine RS.st rfl (St.buildSlice rfl (bs1_dig dB)) (by decide) fun v72 w20 hR20 => ?_
   obtain ⟨g72, rfl, hg72, hB72, hx_1⟩ := hR20
   have hz_1 := hx_1.size
   have hS := hS.thenExt hx_1
   have hB77 := hB77.ext hx_1
   refine ⟨hS, ?_⟩
   refine RH.one 11 (by kernel_rfl) ?_
   refine RS.call rfl (fun _ _ h => by cases h) Tryz.func7 rfl rfl rfl (hmerge_any _ _ _ [(⟨cA, none, 0, some ⟨g17, 0, none⟩, 2⟩ : CoV), (⟨cB, some ⟨g37, 0, none⟩, 1, some ⟨g41, 0, none⟩, 1⟩ : CoV), (⟨cC, some ⟨g44, 0, none⟩, 1, some ⟨g48, 0, none⟩, 1⟩ : CoV)] [dB] [dC] _ (hl3.ext hS) (Blk.sl9 (l := [dB]) (by simpa using hB72) digC_length rfl (by decide) (by decide)) (Blk.sl9 (l := [dC]) (by simpa using hB77) digC_length rfl (by decide) (by decide)) (by decide) (hK.ext (hE.thenExt hS))) (by decide) fun v78 w21 hR21 => ?_
   obtain ⟨hv, rfl, hO, hfu, hx_3⟩ := hR21
   have hS := hS.thenExt hx_3
   rw [show mgE (csL [(⟨cA, none, 0, some ⟨g17, 0, none⟩, 2⟩ : CoV), (⟨cB, some ⟨g37, 0, none⟩, 1, some ⟨g41, 0, none⟩, 1⟩ : CoV), (⟨cC, some ⟨g44, 0, none⟩, 1, some ⟨g48, 0, none⟩, 1⟩ : CoV)]) [dB] [dC] = 0 from mg_C.1]
   rw [show mgL (csL [(⟨cA, none, 0, some ⟨g17, 0, none⟩, 2⟩ : CoV), (⟨cB, some ⟨g37, 0, none⟩, 1, some ⟨g41, 0, none⟩, 1⟩ : CoV), (⟨cC, some ⟨g44, 0, none⟩, 1, some ⟨g48, 0, none⟩, 1⟩ : CoV)]) [dB] [dC] = [dC, dB] from mg_C.2] at hO
   refine ⟨hS, ?_⟩
   refine RH.tk 12 hS rfl (fun wq hq => Y.move rfl) ?_
   refine RH.tk 13 hS rfl (fun wq hq => Y.extract rfl rfl) ?_
   refine RH.tk 14 hS rfl (fun wq hq => Y.extract rfl rfl) ?_
   refine RH.tk 15 hS rfl (fun wq hq => Y.assign rfl) ?_
   refine RH.tk 16 hS rfl (fun wq hq => Y.assign rfl) ?_
   refine RH.done (by kernel_rfl) ?_
   have hx22 := hS; have hz22 := hx22.size; have hE := hE.thenExt hx22; have hB1 := hB1.ext hx22; have hB4 := hB4.ext hx22; have hB5 := hB5.ext hx22; have hB6 := hB6.ext hx22
   exact ⟨hv, Fr.ok, hO, hS⟩
 rintro u w23 hj23
 obtain ⟨hO, hx_⟩ := hj23
 have hE := hE.thenExt hx_
 have hB1 := hB1.ext hx_
 have hB4 := hB4.ext hx_
 have hB5 := hB5.ext hx_
 have hB6 := hB6.ext hx_
 have hl3 := hl3.ext hx_
 obtain ⟨A9, n9, c9, rfl⟩ := hO.lens
 have hn9 : n9 = 2 := by
  have := (hO.mem _ _ _ rfl).2.2.1
  rw [flat_length digC_length] at this
  simp at this; omega
 subst hn9
 refine CW.sr fun K15 hK15 => ?_
 refine WL.m rfl ?_
 refine WL.m rfl ?_
 refine WL.call Tryz.func15 rfl rfl rfl (by have h9 := htext_any _ _ [(⟨cA, none, 0, some ⟨g17, 0, none⟩, 2⟩ : CoV), (⟨cB, some ⟨g37, 0, none⟩, 1, some ⟨g41, 0, none⟩, 1⟩ : CoV), (⟨cC, some ⟨g44, 0, none⟩, 1, some ⟨g48, 0, none⟩, 1⟩ : CoV)] [dC, dB] _ hl3 (hO.sl digC_length (by decide)) (hK.ext hE); rw [show txL (csL [(⟨cA, none, 0, some ⟨g17, 0, none⟩, 2⟩ : CoV), (⟨cB, some ⟨g37, 0, none⟩, 1, some ⟨g41, 0, none⟩, 1⟩ : CoV), (⟨cC, some ⟨g44, 0, none⟩, 1, some ⟨g48, 0, none⟩, 1⟩ : CoV)]) [dC, dB] = [105, 33] from txL_C, show txE (csL [(⟨cA, none, 0, some ⟨g17, 0, none⟩, 2⟩ : CoV), (⟨cB, some ⟨g37, 0, none⟩, 1, some ⟨g41, 0, none⟩, 1⟩ : CoV), (⟨cC, some ⟨g44, 0, none⟩, 1, some ⟨g48, 0, none⟩, 1⟩ : CoV)]) [dC, dB] = 0 from tx_C (fun d hd => by simp at hd; rcases hd with rfl | rfl <;> simp)] at h9; exact h9) (by simp) ?_; rintro v w24 ⟨rfl, hx24⟩; have hz24 := hx24.size; have hE := hE.thenExt hx24; have hB1 := hB1.ext hx24; have hB4 := hB4.ext hx24; have hB5 := hB5.ext hx24; have hB6 := hB6.ext hx24
 refine WL.m rfl ?_
 refine WL.v (Y.extract rfl rfl) ?_
 refine WL.v (Y.extract rfl rfl) ?_
 refine WL.a rfl ?_
 refine WL.a rfl ?_
 refine WL.nil (hK15 _ _ ?_); try clear hK15 K15
 refine CW.sr fun K16 hK16 => ?_
 refine WL.m rfl ?_
 refine WL.v (Y.eql rfl rfl) ?_
 refine WL.m rfl ?_
 refine WL.know (d := 89) (u := .bool true) rfl (rfl) ?_
 refine WL.g rfl rfl (Y.move rfl) ?_
 refine WL.g rfl rfl (Y.len_slice Tryz.underlying24 rfl) ?_
 refine WL.g rfl rfl (Y.eql rfl rfl) ?_
 refine WL.v (Y.pick rfl rfl) ?_
 refine WL.m rfl ?_
 refine WL.know (d := 94) (u := .bool true) rfl (rfl) ?_
 refine WL.g rfl rfl (Y.move rfl) ?_
 refine WL.g rfl rfl (Y.eql rfl rfl) ?_
 refine WL.v (Y.pick rfl rfl) ?_
 refine WL.m rfl ?_
 refine WL.know (d := 98) (u := .bool true) rfl (rfl) ?_
 refine WL.g rfl rfl (Y.move rfl) ?_
 refine WL.g rfl rfl (Y.eql_string rfl rfl) ?_
 refine WL.v (Y.pick rfl rfl) ?_
 refine WL.a rfl ?_
 refine WL.nil (hK16 _ _ ?_); try clear hK16 K16
 refine CW.ret ⟨_, rfl, ?_⟩
 exact ⟨by rw [show bs [105, 33] = ⟨#[105, 33]⟩ from rfl, beq_self_eq_true], hE⟩
end Go.Proofs.YtjbeooimhoilmaaGreatDoor
/- Own, walked once more: what it makes is its own. No condition. -/
namespace Go.Proofs.YtjbeooimhoilmaaGreatDoor
open Go.RowKit Go.Fw Go.Pl
theorem own2_any (u : Value) (c : ComD) (w : World) (hc : Com w u c) (hp : c.parents.length * 32 ≤ 140737488351232) (ho : c.ops.length * 72 ≤ 140737488351232) : Calls Tryz.prog 24 #[u] w (Ret fun v w' => ∃ pv ov, v = .agg (comC pv c.author c.note ov).toArray ∧ Own w' 43 32 pv ((c.parents.map digC).flatten) ∧ Own w' 70 37 ov ((c.ops.map opC).flatten) ∧ (∀ k, pv.ownBlock = some k → w.heap.size ≤ k) ∧ (∀ k, ov.ownBlock = some k → w.heap.size ≤ k) ∧ c.author.size ≤ maxLen ∧ c.note.size ≤ maxLen ∧ Ext w w') := by
 obtain ⟨ic, hic, hzc⟩ := info_com
 obtain ⟨pv, ov, rfl, hpp, hoo, hau, hno⟩ := hc
 obtain ⟨Ap, cp, rfl, _, _⟩ := hpp.lens
 obtain ⟨Ao, co, rfl, _, _⟩ := hoo.lens
 refine calls_of_CWc 14 2 4 [(0, .agg (comC (.slice Ap c.parents.length cp) c.author c.note (.slice Ao c.ops.length co)).toArray)] Tryz.func24 rfl rfl rfl Tryz.underlying48 rfl (by kernel_rfl) (by simp) args1 ?_
 refine CW.sr fun K1 hK1 => ?_
 refine WL.box rfl rfl (by decide) fun g1 w1 hx1 hg1 hB1 => ?_
 have hlt1 := hB1.lt; have hz1 := hx1.size
 have hM1 := hB1.mem
 refine WL.alloc (hic) (hzc) rfl (by decide) fun g2 w2 hx2 hg2 hB2 => ?_
 have hlt2 := hB2.lt; have hz2 := hx2.size
 have hM2 := hB2.mem; have hB1 := hB1.ext hx2
 refine WL.nil (hK1 _ _ ?_); try clear hK1 K1
 refine CW.sr fun K2 hK2 => ?_
 refine WL.st (St.buildSlice0 Tryz.underlying24 sz_dig) (by decide) fun v3 w3 hR3 => ?_
 obtain ⟨g3, rfl, hg3, hO3, hx3⟩ := hR3
 have hB1 := hB1.ext hx3
 have hB2 := hB2.ext hx3
 have hE3 := (hx1.thenExt hx2).thenExt hx3
 refine WL.v (Y.fieldAddr fo_apiCommit0 rfl) ?_
 refine WL.v (Y.load1 Tryz.underlying24 rfl hB1.mem.com0 rfl) ?_
 refine WL.st (St.append Tryz.underlying24 Tryz.underlying24 ai_dig rfl rfl hO3 ((hpp.ext hE3).src digC_length) (one_flat fun x => one_digC) (by simp; omega)) (by decide) fun v6 w4 hR4 => ?_
 obtain ⟨hO6, hc4, hf6⟩ := hR4
 have hS4 : ∀ k, (Value.slice (some ⟨g3, 0, none⟩) 0 0).ownBlock = some k → w2.heap.size ≤ k := fun k h => by simp [Value.ownBlock] at h; omega
 have hE4 : Ext w w4 := hE3.step hc4 (fun k h => by have := hS4 k h; omega)
 have hf6 : ∀ k, v6.ownBlock = some k → w2.heap.size ≤ k := by
  rcases hf6 with h | h
  ·
   intro k hk; rw [h] at hk; exact hS4 k hk
  ·
   intro k hk; have := h k hk; have := hx3.size; omega
 have hB1 := hB1.chg hc4 (fun h => by have := hS4 _ h; omega)
 have hB2 := hB2.chg hc4 (fun h => by have := hS4 _ h; omega)
 obtain ⟨A6, m6, c6, rfl⟩ := hO6.lens
 refine WL.v (Y.fieldAddr fo_apiCommit0 rfl) ?_
 refine WL.store (g := g1) (pre := []) (old := [.slice Ap c.parents.length cp]) (post := [.string c.author, .string c.note, .slice Ao c.ops.length co]) (new := [.slice A6 m6 c6]) rfl rfl rfl rfl (by kernel_rfl) hB1 (by first | rfl | (simp [digC_length, opC_length]; done) | (simp only [digC_length, opC_length]; omega)) (one1 rfl) (fun w5 hc5 hB5_ => ?_)
 have hB1 : Blk w5 g1 48 (comC (.slice A6 m6 c6) c.author c.note (.slice Ao c.ops.length co)) := hB5_
 have hE5 : Ext w w5 := hE4.step hc5 (fun k h => by omega)
 have hB2 := hB2.chg hc5 (fun h => by omega)
 have hO6 := hO6.chg hc5 (fun k hk h => by have := hf6 k hk; omega)
 refine WL.nil (hK2 _ _ ?_); try clear hK2 K2
 refine CW.sr fun K3 hK3 => ?_
 refine WL.st (St.buildSlice0 Tryz.underlying46 sz_op) (by decide) fun v8 w6 hR6 => ?_
 obtain ⟨g8, rfl, hg8, hO8, hx6⟩ := hR6
 have hB1 := hB1.ext hx6
 have hlt2 := hB2.lt
 have hB2 := hB2.ext hx6
 have hlt6 := hO6.lt
 have hO6 := hO6.ext hx6
 have hE6 := hE5.thenExt hx6
 have hsw := hE5.size
 refine WL.v (Y.fieldAddr fo_apiCommit3 rfl) ?_
 refine WL.v (Y.load1 Tryz.underlying46 rfl hB1.mem.com3 rfl) ?_
 refine WL.st (St.append Tryz.underlying46 Tryz.underlying46 ai_op rfl rfl hO8 ((hoo.ext hE6).src opC_length) (one_flat fun x => one_opC) (by simp; omega)) (by decide) fun v11 w7 hR7 => ?_
 obtain ⟨hO11, hc7, hf11⟩ := hR7
 have hS7 : ∀ k, (Value.slice (some ⟨g8, 0, none⟩) 0 0).ownBlock = some k → w5.heap.size ≤ k := fun k h => by simp [Value.ownBlock] at h; omega
 have hE7 : Ext w w7 := hE6.step hc7 (fun k h => by have := hS7 k h; omega)
 have hf11 : ∀ k, v11.ownBlock = some k → w5.heap.size ≤ k := by
  rcases hf11 with h | h
  ·
   intro k hk; rw [h] at hk; exact hS7 k hk
  ·
   intro k hk; have := h k hk; have := hx6.size; omega
 have hB1 := hB1.chg hc7 (fun h => by have := hS7 _ h; omega)
 have hB2 := hB2.chg hc7 (fun h => by have := hS7 _ h; omega)
 have hO6 := hO6.chg hc7 (fun k hk h => by have := hS7 _ h; have := hlt6 k hk; omega)
 obtain ⟨A11, m11, c11, rfl⟩ := hO11.lens
 refine WL.v (Y.fieldAddr fo_apiCommit3 rfl) ?_
 refine WL.store (g := g1) (pre := [.slice A6 m6 c6, .string c.author, .string c.note]) (old := [.slice Ao c.ops.length co]) (post := []) (new := [.slice A11 m11 c11]) rfl rfl rfl rfl (by kernel_rfl) hB1 (by first | rfl | (simp [digC_length, opC_length]; done) | (simp only [digC_length, opC_length]; omega)) (one1 rfl) (fun w8 hc8 hB8_ => ?_)
 have hB1 : Blk w8 g1 48 (comC (.slice A6 m6 c6) c.author c.note (.slice A11 m11 c11)) := hB8_
 have hE8 : Ext w w8 := hE7.step hc8 (fun k h => by omega)
 have hB2 := hB2.chg hc8 (fun h => by omega)
 have hO6 := hO6.chg hc8 (fun k hk h => by have := hf6 k hk; omega)
 have hO11 := hO11.chg hc8 (fun k hk h => by have := hf11 k hk; have := hx6.size; omega)
 refine WL.nil (hK3 _ _ ?_); try clear hK3 K3
 refine CW.sr fun K4 hK4 => ?_
 refine WL.v (Y.load Tryz.underlying48 rfl hB1.mem (sz_apiCommit _ _ _ _) rfl) ?_
 refine WL.store (g := g2) (pre := []) (old := comZ) (post := []) (new := comC (.slice A6 m6 c6) c.author c.note (.slice A11 m11 c11)) rfl rfl rfl rfl (sz_apiCommit _ _ _ _) (by simpa using hB2) (by first | rfl | (simp [digC_length, opC_length]; done) | (simp only [digC_length, opC_length]; omega)) (one_com) (fun w9 hc9 hB9_ => ?_)
 have hB9 : Blk w9 g2 48 (comC (.slice A6 m6 c6) c.author c.note (.slice A11 m11 c11)) := by simpa using hB9_
 have hE9 : Ext w w9 := hE8.step hc9 (fun k h => by omega)
 have hO6 := hO6.chg hc9 (fun k hk h => by have := hf6 k hk; omega)
 have hO11 := hO11.chg hc9 (fun k hk h => by have := hf11 k hk; omega)
 refine WL.nil (hK4 _ _ ?_); try clear hK4 K4
 refine CW.ret ?_
 have hsz1 := hx1.size
 have hsz2 := hx2.size
 have hsz3 := hx3.size
 have hsz4 := hc4.size
 have hsz5 := hc5.size
 refine ⟨_, _, rfl, hB9.mem, rfl, _, _, rfl, by simpa using hO6, by simpa using hO11, fun k hk => by have := hf6 k hk; omega, fun k hk => by have := hf11 k hk; omega, hau, hno, hE9⟩
end Go.Proofs.YtjbeooimhoilmaaGreatDoor
/- own of a list of commits, walked. No condition but bounds. -/
namespace Go.Proofs.YtjbeooimhoilmaaGreatDoor
open Go.RowKit Go.Fw Go.Pl Go.Sort Go.Fu
theorem ai_co : AppInfo Tryz.prog 48 4 80 := by
 have h : (Tryz.prog.info? 48).map (fun i => (i.size, i.bytes, i.zero)) = some (4, 80, some (.agg comZ.toArray)) := by kernel_rfl
 obtain ⟨i, hi, h⟩ := Option.map_eq_some_iff.1 h
 injection h with h1 h2
 injection h2 with h2 h3
 exact ⟨i, _, hi, h3, h1, by show comZ.toArray.size = 4; rfl, h2, by decide, by decide⟩
structure CoOn (w : World) (x : CoV) : Prop where
 ps : Fw.Own w 43 32 x.pv ((x.c.parents.map digC).flatten)
 os : Fw.Own w 70 37 x.ov ((x.c.ops.map opC).flatten)
 au : x.c.author.size ≤ maxLen
 no : x.c.note.size ≤ maxLen
def CoOff (x : CoV) (k : Nat) : Prop := x.pv.ownBlock ≠ some k ∧ x.ov.ownBlock ≠ some k
theorem CoOn.ext {w w' : World} {x : CoV} (h : CoOn w x) (hc : Ext w w') : CoOn w' x := ⟨h.ps.ext hc, h.os.ext hc, h.au, h.no⟩
theorem CoOn.chg {w w' : World} {x : CoV} {S : Nat → Prop} (h : CoOn w x) (hc : Chg S w w') (hs : ∀ k, S k → CoOff x k) : CoOn w' x :=
 ⟨h.ps.chg hc fun k hk h => (hs k h).1 hk, h.os.chg hc fun k hk h => (hs k h).2 hk, h.au, h.no⟩
theorem CoOn.off {w : World} {x : CoV} (h : CoOn w x) {k : Nat} (hk : w.heap.size ≤ k) : CoOff x k :=
 ⟨fun e => by have := h.ps.lt _ e; omega, fun e => by have := h.os.lt _ e; omega⟩
theorem CoOn.co {w : World} {x : CoV} (h : CoOn w x) : CoAt w x := ⟨h.ps.sl digC_length (by decide), h.os.sl opC_length (by decide), h.au, h.no⟩
theorem own2_cov {w w' : World} {c : ComD} {v : Value} {n : Nat} (h : ∃ pv ov, v = .agg (comC pv c.author c.note ov).toArray ∧ Fw.Own w' 43 32 pv ((c.parents.map digC).flatten) ∧ Fw.Own w' 70 37 ov ((c.ops.map opC).flatten) ∧ (∀ k, pv.ownBlock = some k → n ≤ k) ∧ (∀ k, ov.ownBlock = some k → n ≤ k) ∧ c.author.size ≤ maxLen ∧ c.note.size ≤ maxLen ∧ Ext w w') :
  ∃ y : CoV, v = coV y ∧ y.c = c ∧ CoOn w' y ∧ (∀ k, k < n → CoOff y k) ∧ Ext w w' := by
 obtain ⟨pv, ov, rfl, hp, ho, hfp, hfo, ha, hn, hx⟩ := h
 obtain ⟨A, ca, rfl, _⟩ := (hp.sl (xs := c.parents) digC_length (by decide)).lens
 obtain ⟨B, cb, rfl, _⟩ := (ho.sl (xs := c.ops) opC_length (by decide)).lens
 exact ⟨⟨c, A, ca, B, cb⟩, rfl, rfl, ⟨hp, ho, ha, hn⟩, fun k hk => ⟨fun e => by have := hfp k e; omega, fun e => by have := hfo k e; omega⟩, hx⟩
theorem one_coF {l : List CoV} : ∀ u ∈ (l.map coC).flatten, u.oneCell' = true := one_flat fun _ => one_coC
def CoSm (x : CoV) : Prop := x.c.parents.length * 32 ≤ 140737488351232 ∧ x.c.ops.length * 72 ≤ 140737488351232
theorem hown_any (u : Value) (l : List CoV) (w : World) (hl : Hcs w u l) (hs : ∀ x ∈ l, CoSm x) (hn : l.length * 80 ≤ 140737488351232) : Calls Tryz.prog 11 #[u] w (Ret fun v w' => ∃ ys : List CoV, csL ys = csL l ∧ (∀ y ∈ ys, CoOn w' y ∧ ∀ k, v.ownBlock = some k → CoOff y k) ∧ Fw.Own w' 48 4 v ((ys.map coC).flatten) ∧ (∀ k, v.ownBlock = some k → w.heap.size ≤ k) ∧ Ext w w') := by
 obtain ⟨A2, m2, c2, rfl, hlm, hmc, hcm, hlg⟩ := id hl.sl
 unfold maxLen at hcm
 have hcl : (csL l).length = m2 := by rw [List.length_map]; exact hlm
 refine calls_of_CW 20 [2] [(0, .slice A2 m2 c2)] Tryz.func11 rfl rfl rfl (by simp) args1 ?_
 have hE : Ext w w := Chg.refl
 refine CW.sr fun K1 hK1 => ?_
 refine WL.a rfl ?_
 refine WL.nil (hK1 _ _ ?_); try clear hK1 K1
 refine CW.sr fun K2 hK2 => ?_
 refine WL.a rfl ?_
 refine WL.nil (hK2 _ _ ?_); try clear hK2 K2
 refine CW.seq fun K3 hK3 => ?_
 refine CW.sr fun K4 hK4 => ?_
 refine WL.a rfl ?_
 refine WL.nil (hK4 _ _ ?_); try clear hK4 K4
 refine CW.block ?_
 refine CW.loop (X := Nat × Value × List CoV) (fun x => [(0, .slice A2 m2 c2), (3, x.2.1), (4, .int .i64 (x.1 : Int))]) (fun x w0 => x.1 ≤ m2 ∧ x.2.2.map CoV.c = (csL l).take x.1 ∧ (∀ y ∈ x.2.2, CoOn w0 y ∧ ∀ k, x.2.1.ownBlock = some k → CoOff y k) ∧ Fw.Own w0 48 4 x.2.1 ((x.2.2.map coC).flatten) ∧ (∀ k, x.2.1.ownBlock = some k → w.heap.size ≤ k) ∧ Ext w w0) (fun x => m2 - x.1) (0, .slice none 0 0, []) Fr.ok ⟨Nat.zero_le _, rfl, (fun y hy => by cases hy), Own.nil, (fun k h => by simp [Value.ownBlock] at h), hE⟩ ?_
 intro x w1 hl1
 clear hE
 obtain ⟨x, v, ys⟩ := x
 dsimp only at hl1 ⊢
 obtain ⟨hxm, hys, hya, hO, hfu, hE⟩ := hl1
 have hyl : ys.length = x := by have := congrArg List.length hys; rw [List.length_map, List.length_take] at this; omega
 have hOlt := hO.lt
 refine CW.seq fun K5 hK5 => ?_
 refine CW.sr fun K6 hK6 => ?_
 refine WL.m rfl ?_
 refine WL.m rfl ?_
 refine WL.v (Y.len_slice Tryz.underlying22 rfl) ?_
 refine WL.v (Y.lss rfl rfl) ?_
 refine WL.nil (hK6 _ _ ?_); try clear hK6 K6
 (first | refine CW.condD rfl ?_ ?_ | refine CW.condND rfl ?_ ?_ | refine CW.condN rfl ?_ ?_ | refine CW.cond rfl ?_ ?_) <;> intro ht7
 ·
  -- then
  refine CW.skip ?_
  refine hK5 _ _ ?_; try clear hK5 K5
  refine CW.seq fun K8 hK8 => ?_
  refine CW.block ?_
  obtain ⟨cx, hcx⟩ : ∃ cx, l[x]? = some cx := ⟨_, List.getElem?_eq_getElem (by omega)⟩
  have hmx := List.mem_of_getElem? hcx
  obtain ⟨a2, rfl, hma2⟩ := hlg _ _ hcx
  refine CW.region ?_
  refine WL.m rfl ?_
  refine WL.m rfl ?_
  refine WL.m rfl ?_
  refine WL.v (Y.indexAddrN Tryz.underlying22 rfl rfl sz0_apiCommit (by omega)) ?_
  refine WL.v (Y.load Tryz.underlying48 rfl (hma2.ext hE) (sz_apiCommit _ _ _ _) rfl) ?_
  refine WL.call Tryz.func24 rfl rfl rfl (own2_any _ cx.c _ ((hl.all _ hmx).ext hE).com (hs _ hmx).1 (hs _ hmx).2) (by simp) ?_; rintro v16 w2 hR2
  obtain ⟨y, rfl, hyc, hyA, hyf, hx2⟩ := own2_cov hR2
  have hE2 := hE.thenExt hx2
  have hO := hO.ext hx2
  refine WL.st (St.buildSlice rfl (bs1_co y)) (by decide) fun v17 w3 hR3 => ?_
  obtain ⟨g17, rfl, hg17, hB17, hx3⟩ := hR3
  have hE3 := hE2.thenExt hx3
  have hO := hO.ext hx3
  have hz2 := hx2.size
  have hz3 := hx3.size
  have hzE := hE.size
  refine WL.st (St.append (m := 1) Tryz.underlying22 Tryz.underlying22 ai_co rfl rfl hO (Fw.Src.one hB17 rfl) (one_coF (l := [y])) (by rw [flat_length coC_length]; omega)) (by decide) fun v18 w4 hR4 => ?_
  obtain ⟨hO4, hc4, hf4⟩ := hR4
  have hx4 : Ext w w4 := hE3.step hc4 (fun k h => by have := hfu k h; omega)
  have hf4_ := hf4
  have hf4 : ∀ k, v18.ownBlock = some k → w.heap.size ≤ k := fun k hk => by
   rcases hf4 with h | h
   ·
    exact hfu k (h ▸ hk)
   ·
    have := h k hk; omega
  refine WL.a rfl ?_
  refine WL.nil (hK8 _ _ ?_); try clear hK8 K8
  refine CW.region ?_
  refine WL.m rfl ?_
  refine WL.v (Y.add rfl rfl ⟨by omega, by omega⟩) ?_
  refine WL.a rfl ?_
  refine WL.nil ?_
  refine ⟨(x + 1, v18, ys ++ [y]), by show m2 - (x + 1) < m2 - x; omega, Fr.ok, by show x + 1 ≤ m2; omega, ?_, ?_, ?_, hf4, hx4⟩
  ·
   show List.map CoV.c (ys ++ [y]) = (csL l).take (x + 1)
   rw [List.map_append, hys, take_succ (cs_at hcx), List.map_singleton, hyc]
  ·
   show ∀ z ∈ ys ++ [y], CoOn w4 z ∧ ∀ k, v18.ownBlock = some k → CoOff z k
   intro z hz
   have hz3 : CoOn w3 z ∧ ∀ k, v.ownBlock = some k → CoOff z k := by
    rcases List.mem_append.1 hz with hz | hz
    ·
     exact ⟨((hya z hz).1.ext hx2).ext hx3, (hya z hz).2⟩
    ·
     rw [List.mem_singleton] at hz
     subst hz
     exact ⟨hyA.ext hx3, fun k hk => hyf k (hOlt k hk)⟩
   refine ⟨hz3.1.chg hc4 hz3.2, fun k hk => ?_⟩
   rcases hf4_ with h | h
   ·
    exact hz3.2 k (h ▸ hk)
   ·
    exact hz3.1.off (h k hk)
  ·
   show Fw.Own w4 _ 4 v18 (((ys ++ [y]).map coC).flatten)
   rw [List.map_append, List.flatten_append]
   simpa using hO4
 refine CW.exit ?_
 refine hK3 _ _ ?_; try clear hK3 K3
 refine CW.sr fun K9 hK9 => ?_
 refine WL.m rfl ?_
 refine WL.a rfl ?_
 refine WL.nil (hK9 _ _ ?_); try clear hK9 K9
 refine CW.ret ⟨_, rfl, ?_⟩
 have hxm2 : x = m2 := by omega
 rw [hxm2, List.take_of_length_le (by omega)] at hys
 exact ⟨ys, hys, hya, hO, hfu, hE⟩
end Go.Proofs.YtjbeooimhoilmaaGreatDoor
