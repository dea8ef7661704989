/- Parts of a proof: what its last text leans on. No condition. -/
import Derived.Test.YtfanmpbapabboaaGreatDoorK10
import Derived.Test.YtfanmpbapabboaaGreatDoorK11
set_option linter.unusedSimpArgs false
set_option linter.unusedVariables false
/- The reference's mix, walked. No condition. -/
namespace Go.Pl
open Go.Fw
def wordsL : List UInt8 := [52, 50, 56, 97, 50, 102, 57, 56, 55, 49, 51, 55, 52, 52, 57, 49, 98, 53, 99, 48, 102, 98, 99, 102, 101, 57, 98, 53, 100, 98, 97, 53, 51, 57, 53, 54, 99, 50, 53, 98, 53, 57, 102, 49, 49, 49, 102, 49, 57, 50, 51, 102, 56, 50, 97, 52, 97, 98, 49, 99, 53, 101, 100, 53, 100, 56, 48, 55, 97, 97, 57, 56, 49, 50, 56, 51, 53, 98, 48, 49, 50, 52, 51, 49, 56, 53, 98, 101, 53, 53, 48, 99, 55, 100, 99, 51, 55, 50, 98, 101, 53, 100, 55, 52, 56, 48, 100, 101, 98, 49, 102, 101, 57, 98, 100, 99, 48, 54, 97, 55, 99, 49, 57, 98, 102, 49, 55, 52, 101, 52, 57, 98, 54, 57, 99, 49, 101, 102, 98, 101, 52, 55, 56, 54, 48, 102, 99, 49, 57, 100, 99, 54, 50, 52, 48, 99, 97, 49, 99, 99, 50, 100, 101, 57, 50, 99, 54, 102, 52, 97, 55, 52, 56, 52, 97, 97, 53, 99, 98, 48, 97, 57, 100, 99, 55, 54, 102, 57, 56, 56, 100, 97, 57, 56, 51, 101, 53, 49, 53, 50, 97, 56, 51, 49, 99, 54, 54, 100, 98, 48, 48, 51, 50, 55, 99, 56, 98, 102, 53, 57, 55, 102, 99, 55, 99, 54, 101, 48, 48, 98, 102, 51, 100, 53, 97, 55, 57, 49, 52, 55, 48, 54, 99, 97, 54, 51, 53, 49, 49, 52, 50, 57, 50, 57, 54, 55, 50, 55, 98, 55, 48, 97, 56, 53, 50, 101, 49, 98, 50, 49, 51, 56, 52, 100, 50, 99, 54, 100, 102, 99, 53, 51, 51, 56, 48, 100, 49, 51, 54, 53, 48, 97, 55, 51, 53, 52, 55, 54, 54, 97, 48, 97, 98, 98, 56, 49, 99, 50, 99, 57, 50, 101, 57, 50, 55, 50, 50, 99, 56, 53, 97, 50, 98, 102, 101, 56, 97, 49, 97, 56, 49, 97, 54, 54, 52, 98, 99, 50, 52, 98, 56, 98, 55, 48, 99, 55, 54, 99, 53, 49, 97, 51, 100, 49, 57, 50, 101, 56, 49, 57, 100, 54, 57, 57, 48, 54, 50, 52, 102, 52, 48, 101, 51, 53, 56, 53, 49, 48, 54, 97, 97, 48, 55, 48, 49, 57, 97, 52, 99, 49, 49, 54, 49, 101, 51, 55, 54, 99, 48, 56, 50, 55, 52, 56, 55, 55, 52, 99, 51, 52, 98, 48, 98, 99, 98, 53, 51, 57, 49, 99, 48, 99, 98, 51, 52, 101, 100, 56, 97, 97, 52, 97, 53, 98, 57, 99, 99, 97, 52, 102, 54, 56, 50, 101, 54, 102, 102, 51, 55, 52, 56, 102, 56, 50, 101, 101, 55, 56, 97, 53, 54, 51, 54, 102, 56, 52, 99, 56, 55, 56, 49, 52, 56, 99, 99, 55, 48, 50, 48, 56, 57, 48, 98, 101, 102, 102, 102, 97, 97, 52, 53, 48, 54, 99, 101, 98, 98, 101, 102, 57, 97, 51, 102, 55, 99, 54, 55, 49, 55, 56, 102, 50]
set_option maxRecDepth 100000 in
theorem words_ok : ∀ i : Nat, i < 64 → wordL wordsL i 8 = keysL.getD i 0 := by decide +kernel
theorem or_add4 (a b c d : Nat) (hb : b < 256) (hc : c < 256) (hd : d < 256) : ((a <<< 24 ||| b <<< 16) ||| c <<< 8) ||| d = a <<< 24 + b <<< 16 + c <<< 8 + d := by
 have e1 : a <<< 24 ||| b <<< 16 = a <<< 24 + b <<< 16 := (Nat.shiftLeft_add_eq_or_of_lt (by rw [Nat.shiftLeft_eq]; omega) a).symm
 have e2 : a <<< 24 + b <<< 16 = (a * 256 + b) <<< 16 := by simp only [Nat.shiftLeft_eq]; omega
 have e3 : (a * 256 + b) <<< 16 ||| c <<< 8 = (a * 256 + b) <<< 16 + c <<< 8 := (Nat.shiftLeft_add_eq_or_of_lt (by rw [Nat.shiftLeft_eq]; omega) _).symm
 have e4 : (a * 256 + b) <<< 16 + c <<< 8 = ((a * 256 + b) * 256 + c) <<< 8 := by simp only [Nat.shiftLeft_eq]; omega
 have e5 : ((a * 256 + b) * 256 + c) <<< 8 ||| d = ((a * 256 + b) * 256 + c) <<< 8 + d := (Nat.shiftLeft_add_eq_or_of_lt om_ _).symm
 rw [e1, e2, e3, e4, e5]
def wordP (b : List UInt8) (i : Nat) : UInt32 := (((b.getD (4 * i) 0).toUInt32 <<< UInt32.ofNat 24 + (b.getD (4 * i + 1) 0).toUInt32 <<< UInt32.ofNat 16) + (b.getD (4 * i + 2) 0).toUInt32 <<< UInt32.ofNat 8) + (b.getD (4 * i + 3) 0).toUInt32
theorem word_add (p q r s : UInt8) : ((p.toUInt32 <<< UInt32.ofNat 24 + q.toUInt32 <<< UInt32.ofNat 16) + r.toUInt32 <<< UInt32.ofNat 8) + s.toUInt32 = ((p.toUInt32 <<< UInt32.ofNat 24 ||| q.toUInt32 <<< UInt32.ofNat 16) ||| r.toUInt32 <<< UInt32.ofNat 8) ||| s.toUInt32 := by
 apply UInt32.toNat_inj.1
 have hp := p.toNat_lt
 have hq := q.toNat_lt
 have hr := r.toNat_lt
 have hs := s.toNat_lt
 have f1 : ∀ (x : UInt8) (m : Nat), m < 32 → x.toNat * 2 ^ m < 4294967296 → (x.toUInt32 <<< UInt32.ofNat m).toNat = x.toNat <<< m := by
  intro x m hm hx
  rw [UInt32.toNat_shiftLeft, UInt8.toNat_toUInt32, UInt32.toNat_ofNat', show m % 2 ^ 32 % 32 = m by omega, Nat.shiftLeft_eq, Nat.mod_eq_of_lt hx]
 have g1 := f1 p 24 om_ om_
 have g2 := f1 q 16 om_ om_
 have g3 := f1 r 8 om_ om_
 rw [UInt32.toNat_or, UInt32.toNat_or, UInt32.toNat_or, UInt32.toNat_add, UInt32.toNat_add, UInt32.toNat_add, g1, g2, g3, UInt8.toNat_toUInt32, or_add4 _ _ _ _ hq hr hs]
 simp only [Nat.shiftLeft_eq]
 omega
theorem wordP_eq (b : List UInt8) (i : Nat) : wordP b i = wordB b i := word_add _ _ _ _
end Go.Pl
namespace Go.Proofs.YtfanmpbapabboaaGreatDoor
open Go.RowKit Go.Fw Go.Pl
abbrev TW : TypeId := 137
abbrev sz0_uint32 := @sz_u32
theorem ai_w : AppInfo Tryz.prog 137 1 4 := by
 have h : (Tryz.prog.info? 137).map (fun i => (i.size, i.bytes, i.zero)) = some (1, 4, some (.int .u32 0)) := by kernel_rfl
 obtain ⟨i, hi, h⟩ := Option.map_eq_some_iff.1 h
 injection h with h1 h2
 injection h2 with h2 h3
 exact ⟨i, _, hi, h3, h1, rfl, h2, by decide, by decide⟩
theorem bs1_w (x : UInt32) (w : World) : (Instr.buildSlice 136 1 [(0, wd x)].toArray).run Tryz.prog w = .ok (.slice (some ⟨w.heap.size, 0, none⟩) 1 1) (w.alloc (.cells [wd x].toArray 137)) := by
 obtain ⟨i, z, hi, hz, hk, _⟩ := ai_w
 exact run_bs1 Tryz.underlying136 hi hz om_ om_ rfl (by rw [hk]; rfl) w
theorem run_bsV {P : Program} {t e : TypeId} {b : Nat} (hu : P.underlying t = some (.slice e)) (hi : AppInfo P e 1 b) (l : List Value) (hc1 : ∀ u ∈ l, u.oneCell' = true) (h0 : 0 < l.length) (hs : l.length ≤ 16777216) (w : World) :
  (Instr.buildSlice t l.length ((l.zipIdx 0).map fun x => (x.2, x.1)).toArray).run P w = .ok (.slice (some ⟨w.heap.size, 0, none⟩) l.length l.length) (w.alloc (.cells l.toArray e)) := by
 obtain ⟨i, z, hi, hz, hk, hzs, hb, h1, h2⟩ := hi
 refine run_buildSlice w t e l.length _ _ i z hu hi hz (by rw [hk]; omega) (by rw [hk]; omega) ?_
 rw [hk]
 have h := Go.Great.fill_whole (s := 1) de_ l ((Array.range (l.length * 1)).map (z.cells[· % z.cells.size]!)) (by intro u hu; have := hc1 u hu; cases u <;> first | rfl | simp [Value.oneCell'] at this) (by simp)
 rw [flat_cells1 hc1] at h
 exact h
theorem bs8_w (v : V8) (w : World) : (Instr.buildSlice 136 8 [(0, wd v.a), (1, wd v.b), (2, wd v.c), (3, wd v.d), (4, wd v.e), (5, wd v.f), (6, wd v.g), (7, wd v.h)].toArray).run Tryz.prog w = .ok (.slice (some ⟨w.heap.size, 0, none⟩) 8 8) (w.alloc (.cells (wds v.ws).toArray 137)) :=
 run_bsV Tryz.underlying136 ai_w (wds v.ws) wds_one (by show 0 < 8; decide) (by show 8 ≤ _; decide) w
theorem word_key {s : ByteArray} (h : s.data = wordsL.toArray) {i : Nat} (hi : i < 64) : wd (wordL s.toList i 8) = wd (keysL.getD i 0) := by
 rw [ByteArray.toList_eq, h]
 exact congrArg wd (words_ok i hi)
set_option maxRecDepth 20000 in
set_option maxHeartbeats 4000000 in
theorem mix_any (s : V8) (sa : Addr) (sc : Nat) (u : Value) (b : List UInt8) (w : World) (hs : Mem w sa (wds s.ws)) (hb : By w u b) (hlen : b.length = 64) : Calls Tryz.prog 75 #[.slice (some sa) 8 sc, u] w (Ret fun r w' => ∃ g, r = .slice (some ⟨g, 0, none⟩) 8 8 ∧ w.heap.size ≤ g ∧ Blk w' g TW (wds (mixV s b).ws) ∧ Ext w w') := by
 obtain ⟨A, m, c, rfl⟩ := hb.lens
 obtain ⟨hm, hmc, hcm⟩ := hb.len
 obtain ⟨a, rfl, hba⟩ := hb.mem.1 om_
 have hab : a.block < w.heap.size := hba.lt (fun h => by have := congrArg List.length h; rw [bytesC_length, hlen] at this; cases this)
 refine calls_of_CW 251 [4] [(0, .slice (some sa) 8 sc), (1, .slice (some a) m c)] Tryz.func75 rfl rfl rfl (by simp) args2 ?_
 have hE : Ext w w := Chg.refl
 refine CW.sr fun K1 hK1 => ?_
 refine WL.a rfl ?_
 refine WL.nil (hK1 _ _ ?_); try clear hK1
 refine CW.sr fun K2 hK2 => ?_
 refine WL.a rfl ?_
 refine WL.nil (hK2 _ _ ?_); try clear hK2
 refine CW.seq fun K3 hK3 => ?_
 refine CW.sr fun K4 hK4 => ?_
 refine WL.a rfl ?_
 refine WL.nil (hK4 _ _ ?_); try clear hK4
 refine CW.block ?_
 refine CW.loop (X := Nat × Value) (fun x => [(0, .slice (some sa) 8 sc), (1, .slice (some a) m c), (5, x.2), (6, .int .i64 (x.1 : Int))]) (fun x w0 => x.1 ≤ 16 ∧ Ext w w0 ∧ Own w0 TW 1 x.2 (wds (schedN b x.1)) ∧ (∀ k, x.2.ownBlock = some k → w.heap.size ≤ k)) (fun x => 16 - x.1) (0, .slice none 0 0) Fr.ok ⟨Nat.zero_le _, hE, Own.nil, fun k h => by simp [Value.ownBlock] at h⟩ ?_
 intro x w1 hl1
 obtain ⟨x, u⟩ := x
 dsimp only at hl1 ⊢
 obtain ⟨hx, hE, hO, hfu⟩ := hl1
 obtain ⟨B, mb, cb, rfl⟩ := hO.lens
 have hbm := hba.ext hE
 have hz1 := hE.size
 refine CW.seq fun K5 hK5 => ?_
 refine CW.sr fun K6 hK6 => ?_
 refine WL.m rfl ?_
 refine WL.v (Y.lss rfl rfl) ?_
 refine WL.nil (hK6 _ _ ?_); try clear hK6
 (first | refine cd_ rfl ?_ ?_ | refine ce_ rfl ?_ ?_ | refine cn_ rfl ?_ ?_ | refine cb_ rfl ?_ ?_) <;> intro ht7
 ·
  -- then
  refine CW.skip ?_
  refine hK5 _ _ ?_; try clear hK5
  refine CW.seq fun K8 hK8 => ?_
  refine CW.block ?_
  refine CW.held (fun wq => Chg (fun k => w.heap.size ≤ k) w1 wq) kr_ 37 rfl fun w2 hx2 => ?_; have hz2 := hx2.size; have hE := hE.thenExt hx2
  have hS : Chg (fun k => w.heap.size ≤ k) w1 w2 := hx2.mono fun _ _ f => f.elim
  have hO := hO.ext hx2
  refine RH.tk 0 hS rfl (fun wq hq => Y.move rfl) ?_
  refine RH.tk 1 hS rfl (fun wq hq => Y.move rfl) ?_
  refine RH.tk 2 hS rfl (fun wq hq => Y.move rfl) ?_
  refine RH.tk 3 hS rfl (fun wq hq => Y.mul rfl rfl o2_) ?_
  refine RH.tk 4 hS rfl (fun wq hq => Y.indexAddrN Tryz.underlying40 rfl rfl sz0_uint8 (i := 4 * x) om_) ?_
  refine RH.tk 5 hS rfl (fun wq hq => Y.load1 Tryz.underlying5 rfl ((hbm.chg hq (Nat.not_le.2 hab)).bt om_) rfl) ?_
  refine RH.tk 6 hS rfl (fun wq hq => Y.conv8W Tryz.underlying5 Tryz.underlying137 rfl) ?_
  refine RH.tk 7 hS rfl (fun wq hq => Y.shlW 24 rfl rfl rfl de_) ?_
  refine RH.tk 8 hS rfl (fun wq hq => Y.move rfl) ?_
  refine RH.tk 9 hS rfl (fun wq hq => Y.move rfl) ?_
  refine RH.tk 10 hS rfl (fun wq hq => Y.mul rfl rfl o2_) ?_
  refine RH.tk 11 hS rfl (fun wq hq => Y.add rfl rfl o2_) ?_
  refine RH.tk 12 hS rfl (fun wq hq => Y.indexAddrN Tryz.underlying40 rfl rfl sz0_uint8 (i := 4 * x + 1) om_) ?_
  refine RH.tk 13 hS rfl (fun wq hq => Y.load1 Tryz.underlying5 rfl ((hbm.chg hq (Nat.not_le.2 hab)).bt om_) rfl) ?_
  refine RH.tk 14 hS rfl (fun wq hq => Y.conv8W Tryz.underlying5 Tryz.underlying137 rfl) ?_
  refine RH.tk 15 hS rfl (fun wq hq => Y.shlW 16 rfl rfl rfl de_) ?_
  refine RH.tk 16 hS rfl (fun wq hq => Y.addW rfl rfl) ?_
  refine RH.tk 17 hS rfl (fun wq hq => Y.move rfl) ?_
  refine RH.tk 18 hS rfl (fun wq hq => Y.move rfl) ?_
  refine RH.tk 19 hS rfl (fun wq hq => Y.mul rfl rfl o2_) ?_
  refine RH.tk 20 hS rfl (fun wq hq => Y.add rfl rfl o2_) ?_
  refine RH.tk 21 hS rfl (fun wq hq => Y.indexAddrN Tryz.underlying40 rfl rfl sz0_uint8 (i := 4 * x + 2) om_) ?_
  refine RH.tk 22 hS rfl (fun wq hq => Y.load1 Tryz.underlying5 rfl ((hbm.chg hq (Nat.not_le.2 hab)).bt om_) rfl) ?_
  refine RH.tk 23 hS rfl (fun wq hq => Y.conv8W Tryz.underlying5 Tryz.underlying137 rfl) ?_
  refine RH.tk 24 hS rfl (fun wq hq => Y.shlW 8 rfl rfl rfl de_) ?_
  refine RH.tk 25 hS rfl (fun wq hq => Y.addW rfl rfl) ?_
  refine RH.tk 26 hS rfl (fun wq hq => Y.move rfl) ?_
  refine RH.tk 27 hS rfl (fun wq hq => Y.move rfl) ?_
  refine RH.tk 28 hS rfl (fun wq hq => Y.mul rfl rfl o2_) ?_
  refine RH.tk 29 hS rfl (fun wq hq => Y.add rfl rfl o2_) ?_
  refine RH.tk 30 hS rfl (fun wq hq => Y.indexAddrN Tryz.underlying40 rfl rfl sz0_uint8 (i := 4 * x + 3) om_) ?_
  refine RH.tk 31 hS rfl (fun wq hq => Y.load1 Tryz.underlying5 rfl ((hbm.chg hq (Nat.not_le.2 hab)).bt om_) rfl) ?_
  refine RH.tk 32 hS rfl (fun wq hq => Y.conv8W Tryz.underlying5 Tryz.underlying137 rfl) ?_
  refine RH.tk 33 hS rfl (fun wq hq => Y.addW rfl rfl) ?_
  refine RH.one 34 kr_ ?_
  refine RS.st rfl (St.buildSlice rfl (bs1_w _)) de_ fun v59 w3 hR3 => ?_
  obtain ⟨g59, rfl, hg59, hB59, hx3⟩ := hR3
  have hz3 := hx3.size
  have hE := hE.thenExt hx3
  have hO := hO.ext hx3
  have hS := hS.thenExt hx3
  refine ⟨hS, ?_⟩
  refine RH.one 35 kr_ ?_
  refine RS.st rfl (St.append Tryz.underlying136 Tryz.underlying136 ai_w rfl rfl hO (Src.one hB59 rfl) (one1 rfl) (by rw [List.length_map, schedN_length]; omega)) de_ fun v60 w4 hR4 => ?_
  obtain ⟨hO4, hc4, hf4⟩ := hR4
  have hz4 := hc4.size
  have hE := hE.step hc4 (fun k h => hfu k h)
  have hf4 : ∀ k, v60.ownBlock = some k → w.heap.size ≤ k := by
   rcases hf4 with h | h
   ·
    intro k hk; rw [h] at hk; exact hfu k hk
   ·
    intro k hk; have := h k hk; omega
  have hS := hS.trans hc4 (fun k _ h => hfu k h)
  refine ⟨hS, ?_⟩
  refine RH.tk 36 hS rfl (fun wq hq => Y.assign rfl) ?_
  refine RH.done kr_ ?_
  refine hK8 _ _ ?_; try clear hK8
  refine CW.region ?_
  refine WL.m rfl ?_
  refine WL.v (Y.add rfl rfl o2_) ?_
  refine WL.a rfl ?_
  refine WL.nil ?_
  refine ⟨(x + 1, v60), by show 16 - (x + 1) < 16 - x; omega, Fr.ok, by show x + 1 ≤ 16; omega, hE, ?_, hf4⟩
  show Own _ TW 1 v60 (wds (schedN b (x + 1)))
  rw [sched_lo b om_, ← wordP_eq, wds, List.map_append]
  exact hO4
 refine CW.exit ?_
 refine hK3 _ _ ?_; try clear hK3
 refine CW.seq fun K9 hK9 => ?_
 refine CW.sr fun K10 hK10 => ?_
 refine WL.a rfl ?_
 refine WL.nil (hK10 _ _ ?_); try clear hK10
 refine CW.block ?_
 refine CW.loop (X := Nat × Value) (fun x => [(0, .slice (some sa) 8 sc), (5, x.2), (7, .int .i64 (x.1 : Int))]) (fun x w0 => 16 ≤ x.1 ∧ x.1 ≤ 64 ∧ Ext w w0 ∧ Own w0 TW 1 x.2 (wds (schedN b x.1)) ∧ (∀ k, x.2.ownBlock = some k → w.heap.size ≤ k)) (fun x => 64 - x.1) (16, .slice B mb cb) Fr.ok ⟨Nat.le_refl _, (by show 16 ≤ 64; decide), hE, by rw [show x = 16 by omega] at hO; exact hO, hfu⟩ ?_
 intro x w5 hl5
 clear hE hO hfu hx
 obtain ⟨x, u⟩ := x
 dsimp only at hl5 ⊢
 obtain ⟨hxa, hxb, hE, hO, hfu⟩ := hl5
 obtain ⟨B, mb, cb, rfl⟩ := hO.lens
 obtain ⟨hA, _, hlm, _, _⟩ := hO.mem B mb cb rfl
 rw [List.length_map, schedN_length] at hlm
 obtain ⟨d, rfl, hMW⟩ := hA om_
 have hz5 := hE.size
 refine CW.seq fun K11 hK11 => ?_
 refine CW.sr fun K12 hK12 => ?_
 refine WL.m rfl ?_
 refine WL.v (Y.lss rfl rfl) ?_
 refine WL.nil (hK12 _ _ ?_); try clear hK12
 (first | refine cd_ rfl ?_ ?_ | refine ce_ rfl ?_ ?_ | refine cn_ rfl ?_ ?_ | refine cb_ rfl ?_ ?_) <;> intro ht13
 ·
  -- then
  refine CW.skip ?_
  refine hK11 _ _ ?_; try clear hK11
  refine CW.seq fun K14 hK14 => ?_
  refine CW.block ?_
  refine CW.seq fun K15 hK15 => ?_
  refine CW.quiet (fun wq => Ext w5 wq) kr_ kr_ Chg.drew ?_
  refine QL.m rfl ?_
  refine QL.m rfl ?_
  refine QL.v (fun wq hq => Y.sub rfl rfl o2_) ?_
  refine QL.v (fun wq hq => Y.indexAddr Tryz.underlying136 rfl rfl sz0_uint32 om_ om_) ?_
  refine QL.v (fun wq hq => Y.load1 Tryz.underlying137 rfl ((hMW.ext hq).wdI (j := x - 15) om_ (sched_get om_)) rfl) ?_
  refine QL.call Tryz.func98 rfl rfl rfl (fun wq hq => ret_ext (turn_any _ 7 _ de_ de_) hq) (by simp) ?_
  refine QL.m rfl ?_
  refine QL.m rfl ?_
  refine QL.v (fun wq hq => Y.sub rfl rfl o2_) ?_
  refine QL.v (fun wq hq => Y.indexAddr Tryz.underlying136 rfl rfl sz0_uint32 om_ om_) ?_
  refine QL.v (fun wq hq => Y.load1 Tryz.underlying137 rfl ((hMW.ext hq).wdI (j := x - 15) om_ (sched_get om_)) rfl) ?_
  refine QL.call Tryz.func98 rfl rfl rfl (fun wq hq => ret_ext (turn_any _ 18 _ de_ de_) hq) (by simp) ?_
  refine QL.v (fun wq hq => Y.xorW rfl rfl) ?_
  refine QL.m rfl ?_
  refine QL.m rfl ?_
  refine QL.v (fun wq hq => Y.sub rfl rfl o2_) ?_
  refine QL.v (fun wq hq => Y.indexAddr Tryz.underlying136 rfl rfl sz0_uint32 om_ om_) ?_
  refine QL.v (fun wq hq => Y.load1 Tryz.underlying137 rfl ((hMW.ext hq).wdI (j := x - 15) om_ (sched_get om_)) rfl) ?_
  refine QL.v (fun wq hq => Y.shrW 3 rfl rfl rfl de_) ?_
  refine QL.v (fun wq hq => Y.xorW rfl rfl) ?_
  refine QL.a rfl ?_
  refine QL.nil fun w6 hx6 => ?_
  have hz6 := hx6.size
  have hE := hE.thenExt hx6
  refine hK15 _ _ ?_; try clear hK15
  refine CW.seq fun K16 hK16 => ?_
  refine CW.quiet (fun wq => Ext w6 wq) kr_ kr_ Chg.drew ?_
  refine QL.m rfl ?_
  refine QL.m rfl ?_
  refine QL.v (fun wq hq => Y.sub rfl rfl o2_) ?_
  refine QL.v (fun wq hq => Y.indexAddr Tryz.underlying136 rfl rfl sz0_uint32 om_ om_) ?_
  refine QL.v (fun wq hq => Y.load1 Tryz.underlying137 rfl ((hMW.ext (hx6.thenExt hq)).wdI (j := x - 2) om_ (sched_get om_)) rfl) ?_
  refine QL.call Tryz.func98 rfl rfl rfl (fun wq hq => ret_ext (turn_any _ 17 _ de_ de_) hq) (by simp) ?_
  refine QL.m rfl ?_
  refine QL.m rfl ?_
  refine QL.v (fun wq hq => Y.sub rfl rfl o2_) ?_
  refine QL.v (fun wq hq => Y.indexAddr Tryz.underlying136 rfl rfl sz0_uint32 om_ om_) ?_
  refine QL.v (fun wq hq => Y.load1 Tryz.underlying137 rfl ((hMW.ext (hx6.thenExt hq)).wdI (j := x - 2) om_ (sched_get om_)) rfl) ?_
  refine QL.call Tryz.func98 rfl rfl rfl (fun wq hq => ret_ext (turn_any _ 19 _ de_ de_) hq) (by simp) ?_
  refine QL.v (fun wq hq => Y.xorW rfl rfl) ?_
  refine QL.m rfl ?_
  refine QL.m rfl ?_
  refine QL.v (fun wq hq => Y.sub rfl rfl o2_) ?_
  refine QL.v (fun wq hq => Y.indexAddr Tryz.underlying136 rfl rfl sz0_uint32 om_ om_) ?_
  refine QL.v (fun wq hq => Y.load1 Tryz.underlying137 rfl ((hMW.ext (hx6.thenExt hq)).wdI (j := x - 2) om_ (sched_get om_)) rfl) ?_
  refine QL.v (fun wq hq => Y.shrW 10 rfl rfl rfl de_) ?_
  refine QL.v (fun wq hq => Y.xorW rfl rfl) ?_
  refine QL.a rfl ?_
  refine QL.nil fun w7 hx7 => ?_
  have hz7 := hx7.size
  have hE := hE.thenExt hx7
  refine hK16 _ _ ?_; try clear hK16
  refine CW.held (fun _ => True) kr_ 19 rfl fun w8 hx8 => ?_; have hz8 := hx8.size; have hE := hE.thenExt hx8
  have hO := hO.ext ((hx6.thenExt hx7).thenExt hx8)
  have hMW := hMW.ext ((hx6.thenExt hx7).thenExt hx8)
  refine RH.tk 0 trivial rfl (fun wq hq => Y.move rfl) ?_
  refine RH.tk 1 trivial rfl (fun wq hq => Y.move rfl) ?_
  refine RH.tk 2 trivial rfl (fun wq hq => Y.move rfl) ?_
  refine RH.tk 3 trivial rfl (fun wq hq => Y.sub rfl rfl o2_) ?_
  refine RH.tk 4 trivial rfl (fun wq hq => Y.indexAddr Tryz.underlying136 rfl rfl sz0_uint32 om_ om_) ?_
  refine RH.tk 6 trivial rfl (fun wq hq => Y.move rfl) ?_
  refine RH.tk 8 trivial rfl (fun wq hq => Y.move rfl) ?_
  refine RH.tk 9 trivial rfl (fun wq hq => Y.move rfl) ?_
  refine RH.tk 10 trivial rfl (fun wq hq => Y.sub rfl rfl o2_) ?_
  refine RH.tk 11 trivial rfl (fun wq hq => Y.indexAddr Tryz.underlying136 rfl rfl sz0_uint32 om_ om_) ?_
  refine RH.tk 14 trivial rfl (fun wq hq => Y.move rfl) ?_
  refine RH.two 5 12 kr_ ?_ ?_
  ·
   skip
   refine RS.val rfl (Y.load1 Tryz.underlying137 rfl (hMW.wdI (j := x - 16) om_ (sched_get om_)) rfl) de_ ⟨trivial, ?_⟩
   refine RH.tk 7 trivial rfl (fun wq hq => Y.addW rfl rfl) ?_
   refine RH.one 12 kr_ ?_
   refine RS.val rfl (Y.load1 Tryz.underlying137 rfl (hMW.wdI (j := x - 7) om_ (sched_get om_)) rfl) de_ ⟨trivial, ?_⟩
   refine RH.tk 13 trivial rfl (fun wq hq => Y.addW rfl rfl) ?_
   refine RH.tk 15 trivial rfl (fun wq hq => Y.addW rfl rfl) ?_
   refine RH.one 16 kr_ ?_
   refine RS.st rfl (St.buildSlice rfl (bs1_w _)) de_ fun v121 w9 hR9 => ?_
   obtain ⟨g121, rfl, hg121, hB121, hx9⟩ := hR9
   have hz9 := hx9.size
   have hE := hE.thenExt hx9
   have hO := hO.ext hx9
   refine ⟨trivial, ?_⟩
   refine RH.one 17 kr_ ?_
   refine RS.st rfl (St.append Tryz.underlying136 Tryz.underlying136 ai_w rfl rfl hO (Src.one hB121 rfl) (one1 rfl) (by rw [List.length_map, schedN_length]; omega)) de_ fun v122 w10 hR10 => ?_
   obtain ⟨hO10, hc10, hf10⟩ := hR10
   have hz10 := hc10.size
   have hE := hE.step hc10 (fun k h => hfu k h)
   have hf10 : ∀ k, v122.ownBlock = some k → w.heap.size ≤ k := by
    rcases hf10 with h | h
    ·
     intro k hk; rw [h] at hk; exact hfu k hk
    ·
     intro k hk; have := h k hk; omega
   refine ⟨trivial, ?_⟩
   refine RH.tk 18 trivial rfl (fun wq hq => Y.assign rfl) ?_
   refine RH.done kr_ ?_
   refine hK14 _ _ ?_; try clear hK14
   refine CW.region ?_
   refine WL.m rfl ?_
   refine WL.v (Y.add rfl rfl o2_) ?_
   refine WL.a rfl ?_
   refine WL.nil ?_
   refine ⟨(x + 1, v122), by show 64 - (x + 1) < 64 - x; omega, Fr.ok, by show 16 ≤ x + 1; omega, by show x + 1 ≤ 64; omega, hE, ?_, hf10⟩
   show Own _ TW 1 v122 (wds (schedN b (x + 1)))
   rw [sched_hi b om_, wds, List.map_append]
   exact hO10
  ·
   skip
   refine RS.val rfl (Y.load1 Tryz.underlying137 rfl (hMW.wdI (j := x - 7) om_ (sched_get om_)) rfl) de_ ⟨trivial, ?_⟩
   refine RH.one 5 kr_ ?_
   refine RS.val rfl (Y.load1 Tryz.underlying137 rfl (hMW.wdI (j := x - 16) om_ (sched_get om_)) rfl) de_ ⟨trivial, ?_⟩
   refine RH.tk 7 trivial rfl (fun wq hq => Y.addW rfl rfl) ?_
   refine RH.tk 13 trivial rfl (fun wq hq => Y.addW rfl rfl) ?_
   refine RH.tk 15 trivial rfl (fun wq hq => Y.addW rfl rfl) ?_
   refine RH.one 16 kr_ ?_
   refine RS.st rfl (St.buildSlice rfl (bs1_w _)) de_ fun v121 w11 hR11 => ?_
   obtain ⟨g121, rfl, hg121, hB121, hx11⟩ := hR11
   have hz11 := hx11.size
   have hE := hE.thenExt hx11
   have hO := hO.ext hx11
   refine ⟨trivial, ?_⟩
   refine RH.one 17 kr_ ?_
   refine RS.st rfl (St.append Tryz.underlying136 Tryz.underlying136 ai_w rfl rfl hO (Src.one hB121 rfl) (one1 rfl) (by rw [List.length_map, schedN_length]; omega)) de_ fun v122 w12 hR12 => ?_
   obtain ⟨hO12, hc12, hf12⟩ := hR12
   have hz12 := hc12.size
   have hE := hE.step hc12 (fun k h => hfu k h)
   have hf12 : ∀ k, v122.ownBlock = some k → w.heap.size ≤ k := by
    rcases hf12 with h | h
    ·
     intro k hk; rw [h] at hk; exact hfu k hk
    ·
     intro k hk; have := h k hk; omega
   refine ⟨trivial, ?_⟩
   refine RH.tk 18 trivial rfl (fun wq hq => Y.assign rfl) ?_
   refine RH.done kr_ ?_
   refine hK14 _ _ ?_; try clear hK14
   refine CW.region ?_
   refine WL.m rfl ?_
   refine WL.v (Y.add rfl rfl o2_) ?_
   refine WL.a rfl ?_
   refine WL.nil ?_
   refine ⟨(x + 1, v122), by show 64 - (x + 1) < 64 - x; omega, Fr.ok, by show 16 ≤ x + 1; omega, by show x + 1 ≤ 64; omega, hE, ?_, hf12⟩
   show Own _ TW 1 v122 (wds (schedN b (x + 1)))
   rw [sched_hi b om_, wds, List.map_append]
   exact hO12
 have e64 : x = 64 := by omega
 have hm64 : mb = 64 := by omega
 rw [e64] at hO hMW
 refine CW.exit ?_
 refine hK9 _ _ ?_; try clear hK9
 refine CW.seq fun K17 hK17 => ?_
 refine CW.quiet (fun wq => Ext w5 wq) kr_ kr_ Chg.drew ?_
 refine QL.m rfl ?_
 refine QL.v (fun wq hq => Y.indexAddrN (i := 0) Tryz.underlying136 rfl rfl sz0_uint32 de_) ?_
 refine QL.v (fun wq hq => Y.load1 Tryz.underlying137 rfl ((hs.ext (hE.thenExt hq)).wd (i := 0) rfl) rfl) ?_
 refine QL.m rfl ?_
 refine QL.v (fun wq hq => Y.indexAddrN (i := 1) Tryz.underlying136 rfl rfl sz0_uint32 de_) ?_
 refine QL.v (fun wq hq => Y.load1 Tryz.underlying137 rfl ((hs.ext (hE.thenExt hq)).wd (i := 1) rfl) rfl) ?_
 refine QL.m rfl ?_
 refine QL.v (fun wq hq => Y.indexAddrN (i := 2) Tryz.underlying136 rfl rfl sz0_uint32 de_) ?_
 refine QL.v (fun wq hq => Y.load1 Tryz.underlying137 rfl ((hs.ext (hE.thenExt hq)).wd (i := 2) rfl) rfl) ?_
 refine QL.m rfl ?_
 refine QL.v (fun wq hq => Y.indexAddrN (i := 3) Tryz.underlying136 rfl rfl sz0_uint32 de_) ?_
 refine QL.v (fun wq hq => Y.load1 Tryz.underlying137 rfl ((hs.ext (hE.thenExt hq)).wd (i := 3) rfl) rfl) ?_
 refine QL.a rfl ?_
 refine QL.a rfl ?_
 refine QL.a rfl ?_
 refine QL.a rfl ?_
 refine QL.nil fun w13 hx13 => ?_
 have hz13 := hx13.size
 have hE := hE.thenExt hx13
 refine hK17 _ _ ?_; try clear hK17
 refine CW.seq fun K18 hK18 => ?_
 refine CW.quiet (fun wq => Ext w13 wq) kr_ kr_ Chg.drew ?_
 refine QL.m rfl ?_
 refine QL.v (fun wq hq => Y.indexAddrN (i := 4) Tryz.underlying136 rfl rfl sz0_uint32 de_) ?_
 refine QL.v (fun wq hq => Y.load1 Tryz.underlying137 rfl ((hs.ext (hE.thenExt hq)).wd (i := 4) rfl) rfl) ?_
 refine QL.m rfl ?_
 refine QL.v (fun wq hq => Y.indexAddrN (i := 5) Tryz.underlying136 rfl rfl sz0_uint32 de_) ?_
 refine QL.v (fun wq hq => Y.load1 Tryz.underlying137 rfl ((hs.ext (hE.thenExt hq)).wd (i := 5) rfl) rfl) ?_
 refine QL.m rfl ?_
 refine QL.v (fun wq hq => Y.indexAddrN (i := 6) Tryz.underlying136 rfl rfl sz0_uint32 de_) ?_
 refine QL.v (fun wq hq => Y.load1 Tryz.underlying137 rfl ((hs.ext (hE.thenExt hq)).wd (i := 6) rfl) rfl) ?_
 refine QL.m rfl ?_
 refine QL.v (fun wq hq => Y.indexAddrN (i := 7) Tryz.underlying136 rfl rfl sz0_uint32 de_) ?_
 refine QL.v (fun wq hq => Y.load1 Tryz.underlying137 rfl ((hs.ext (hE.thenExt hq)).wd (i := 7) rfl) rfl) ?_
 refine QL.a rfl ?_
 refine QL.a rfl ?_
 refine QL.a rfl ?_
 refine QL.a rfl ?_
 refine QL.nil fun w14 hx14 => ?_
 have hz14 := hx14.size
 have hE := hE.thenExt hx14
 refine hK18 _ _ ?_; try clear hK18
 refine CW.seq fun K19 hK19 => ?_
 refine CW.sr fun K20 hK20 => ?_
 refine WL.a rfl ?_
 refine WL.nil (hK20 _ _ ?_); try clear hK20
 refine CW.block ?_
 refine CW.loop (X := Nat) (fun x => [(0, .slice (some sa) 8 sc), (5, .slice (some d) mb cb), (10, wd (rounds (schedN b 64) x s).a), (11, wd (rounds (schedN b 64) x s).b), (12, wd (rounds (schedN b 64) x s).c), (13, wd (rounds (schedN b 64) x s).d), (14, wd (rounds (schedN b 64) x s).e), (15, wd (rounds (schedN b 64) x s).f), (16, wd (rounds (schedN b 64) x s).g), (17, wd (rounds (schedN b 64) x s).h), (18, .int .i64 (x : Int))]) (fun x w0 => x ≤ 64 ∧ Ext w14 w0) (fun x => 64 - x) 0 Fr.ok ⟨Nat.zero_le _, Chg.refl⟩ ?_
 intro x w15 hl15
 obtain ⟨hxc, hy15⟩ := hl15
 have hE := hE.thenExt hy15
 have hz15 := hE.size
 generalize hv : rounds (schedN b 64) x s = v
 refine CW.seq fun K21 hK21 => ?_
 refine CW.sr fun K22 hK22 => ?_
 refine WL.m rfl ?_
 refine WL.v (Y.lss rfl rfl) ?_
 refine WL.nil (hK22 _ _ ?_); try clear hK22
 (first | refine cd_ rfl ?_ ?_ | refine ce_ rfl ?_ ?_ | refine cn_ rfl ?_ ?_ | refine cb_ rfl ?_ ?_) <;> intro ht23
 ·
  -- then
  refine CW.skip ?_
  refine hK21 _ _ ?_; try clear hK21
  refine CW.seq fun K24 hK24 => ?_
  refine CW.block ?_
  refine CW.seq fun K25 hK25 => ?_
  refine CW.quiet (fun wq => Ext w15 wq) kr_ kr_ Chg.drew ?_
  refine QL.m rfl ?_
  refine QL.m rfl ?_
  refine QL.call Tryz.func98 rfl rfl rfl (fun wq hq => ret_ext (turn_any _ 6 _ de_ de_) hq) (by simp) ?_
  refine QL.m rfl ?_
  refine QL.call Tryz.func98 rfl rfl rfl (fun wq hq => ret_ext (turn_any _ 11 _ de_ de_) hq) (by simp) ?_
  refine QL.v (fun wq hq => Y.xorW rfl rfl) ?_
  refine QL.m rfl ?_
  refine QL.call Tryz.func98 rfl rfl rfl (fun wq hq => ret_ext (turn_any _ 25 _ de_ de_) hq) (by simp) ?_
  refine QL.v (fun wq hq => Y.xorW rfl rfl) ?_
  refine QL.v (fun wq hq => Y.addW rfl rfl) ?_
  refine QL.m rfl ?_
  refine QL.m rfl ?_
  refine QL.v (fun wq hq => Y.andW rfl rfl) ?_
  refine QL.m rfl ?_
  refine QL.v (fun wq hq => Y.notW rfl) ?_
  refine QL.m rfl ?_
  refine QL.v (fun wq hq => Y.andW rfl rfl) ?_
  refine QL.v (fun wq hq => Y.xorW rfl rfl) ?_
  refine QL.v (fun wq hq => Y.addW rfl rfl) ?_
  refine QL.m rfl ?_
  refine QL.call Tryz.func73 rfl rfl rfl (fun wq hq => ret_ext (word_any _ x _ (by show 8 * x + 8 ≤ 512; omega) (by show 512 ≤ _; decide)) hq) (by simp) ?_
  refine QL.know (d := 171) (u := wd (keysL.getD x 0)) rfl (word_key rfl om_) ?_
  refine QL.v (fun wq hq => Y.addW rfl rfl) ?_
  refine QL.m rfl ?_
  refine QL.m rfl ?_
  refine QL.v (fun wq hq => Y.indexAddrN Tryz.underlying136 rfl rfl sz0_uint32 om_) ?_
  refine QL.v (fun wq hq => Y.load1 Tryz.underlying137 rfl ((hMW.ext (((hx13.thenExt hx14).thenExt hy15).thenExt hq)).wd (sched_get om_)) rfl) ?_
  refine QL.v (fun wq hq => Y.addW rfl rfl) ?_
  refine QL.a rfl ?_
  refine QL.nil fun w16 hx16 => ?_
  have hz16 := hx16.size
  have hE := hE.thenExt hx16
  refine hK25 _ _ ?_; try clear hK25
  refine CW.sr fun K26 hK26 => ?_
  refine WL.m rfl ?_
  refine WL.call Tryz.func98 rfl rfl rfl (turn_any _ 2 _ de_ de_) (by simp) ?_; rintro v w17 ⟨rfl, hx17⟩; have hz17 := hx17.size; have hE := hE.thenExt hx17
  refine WL.m rfl ?_
  refine WL.call Tryz.func98 rfl rfl rfl (turn_any _ 13 _ de_ de_) (by simp) ?_; rintro v w18 ⟨rfl, hx18⟩; have hz18 := hx18.size; have hE := hE.thenExt hx18
  refine WL.v (Y.xorW rfl rfl) ?_
  refine WL.m rfl ?_
  refine WL.call Tryz.func98 rfl rfl rfl (turn_any _ 22 _ de_ de_) (by simp) ?_; rintro v w19 ⟨rfl, hx19⟩; have hz19 := hx19.size; have hE := hE.thenExt hx19
  refine WL.v (Y.xorW rfl rfl) ?_
  refine WL.m rfl ?_
  refine WL.m rfl ?_
  refine WL.v (Y.andW rfl rfl) ?_
  refine WL.m rfl ?_
  refine WL.m rfl ?_
  refine WL.v (Y.andW rfl rfl) ?_
  refine WL.v (Y.xorW rfl rfl) ?_
  refine WL.m rfl ?_
  refine WL.m rfl ?_
  refine WL.v (Y.andW rfl rfl) ?_
  refine WL.v (Y.xorW rfl rfl) ?_
  refine WL.v (Y.addW rfl rfl) ?_
  refine WL.a rfl ?_
  refine WL.nil (hK26 _ _ ?_); try clear hK26
  refine CW.sr fun K27 hK27 => ?_
  refine WL.m rfl ?_
  refine WL.a rfl ?_
  refine WL.nil (hK27 _ _ ?_); try clear hK27
  refine CW.sr fun K28 hK28 => ?_
  refine WL.m rfl ?_
  refine WL.a rfl ?_
  refine WL.nil (hK28 _ _ ?_); try clear hK28
  refine CW.sr fun K29 hK29 => ?_
  refine WL.m rfl ?_
  refine WL.a rfl ?_
  refine WL.nil (hK29 _ _ ?_); try clear hK29
  refine CW.sr fun K30 hK30 => ?_
  refine WL.m rfl ?_
  refine WL.m rfl ?_
  refine WL.v (Y.addW rfl rfl) ?_
  refine WL.a rfl ?_
  refine WL.nil (hK30 _ _ ?_); try clear hK30
  refine CW.sr fun K31 hK31 => ?_
  refine WL.m rfl ?_
  refine WL.a rfl ?_
  refine WL.nil (hK31 _ _ ?_); try clear hK31
  refine CW.sr fun K32 hK32 => ?_
  refine WL.m rfl ?_
  refine WL.a rfl ?_
  refine WL.nil (hK32 _ _ ?_); try clear hK32
  refine CW.sr fun K33 hK33 => ?_
  refine WL.m rfl ?_
  refine WL.a rfl ?_
  refine WL.nil (hK33 _ _ ?_); try clear hK33
  refine CW.region ?_
  refine WL.m rfl ?_
  refine WL.m rfl ?_
  refine WL.v (Y.addW rfl rfl) ?_
  refine WL.a rfl ?_
  refine WL.nil (hK24 _ _ ?_); try clear hK24
  refine CW.region ?_
  refine WL.m rfl ?_
  refine WL.v (Y.add rfl rfl o2_) ?_
  refine WL.a rfl ?_
  refine WL.nil ?_
  have e : rounds (schedN b 64) (x + 1) s = rnd v (keysL.getD x 0) ((schedN b 64).getD x 0) := by rw [rounds, hv]
  refine ⟨x + 1, by show 64 - (x + 1) < 64 - x; omega, ?_, by show x + 1 ≤ 64; omega, (((hy15.thenExt hx16).thenExt hx17).thenExt hx18).thenExt hx19⟩
  show Fr.le [(0, .slice (some sa) 8 sc), (5, .slice (some d) mb cb), (10, wd (rounds (schedN b 64) (x + 1) s).a), (11, wd (rounds (schedN b 64) (x + 1) s).b), (12, wd (rounds (schedN b 64) (x + 1) s).c), (13, wd (rounds (schedN b 64) (x + 1) s).d), (14, wd (rounds (schedN b 64) (x + 1) s).e), (15, wd (rounds (schedN b 64) (x + 1) s).f), (16, wd (rounds (schedN b 64) (x + 1) s).g), (17, wd (rounds (schedN b 64) (x + 1) s).h), (18, .int .i64 ((x + 1 : Nat) : Int))] _
  rw [e]
  exact Fr.ok
 refine CW.exit ?_
 refine hK19 _ _ ?_; try clear hK19
 refine CW.seq fun K34 hK34 => ?_
 refine CW.held (fun wq => Ext w15 wq) kr_ 42 rfl fun w20 hS => ?_
 refine RH.tk 0 hS rfl (fun wq hq => Y.move rfl) ?_
 refine RH.tk 1 hS rfl (fun wq hq => Y.indexAddrN (i := 0) Tryz.underlying136 rfl rfl sz0_uint32 de_) ?_
 refine RH.tk 2 hS rfl (fun wq hq => Y.load1 Tryz.underlying137 rfl ((hs.ext (hE.thenExt hq)).wd (i := 0) rfl) rfl) ?_
 refine RH.tk 3 hS rfl (fun wq hq => Y.move rfl) ?_
 refine RH.tk 4 hS rfl (fun wq hq => Y.addW rfl rfl) ?_
 refine RH.tk 5 hS rfl (fun wq hq => Y.move rfl) ?_
 refine RH.tk 6 hS rfl (fun wq hq => Y.indexAddrN (i := 1) Tryz.underlying136 rfl rfl sz0_uint32 de_) ?_
 refine RH.tk 7 hS rfl (fun wq hq => Y.load1 Tryz.underlying137 rfl ((hs.ext (hE.thenExt hq)).wd (i := 1) rfl) rfl) ?_
 refine RH.tk 8 hS rfl (fun wq hq => Y.move rfl) ?_
 refine RH.tk 9 hS rfl (fun wq hq => Y.addW rfl rfl) ?_
 refine RH.tk 10 hS rfl (fun wq hq => Y.move rfl) ?_
 refine RH.tk 11 hS rfl (fun wq hq => Y.indexAddrN (i := 2) Tryz.underlying136 rfl rfl sz0_uint32 de_) ?_
 refine RH.tk 12 hS rfl (fun wq hq => Y.load1 Tryz.underlying137 rfl ((hs.ext (hE.thenExt hq)).wd (i := 2) rfl) rfl) ?_
 refine RH.tk 13 hS rfl (fun wq hq => Y.move rfl) ?_
 refine RH.tk 14 hS rfl (fun wq hq => Y.addW rfl rfl) ?_
 refine RH.tk 15 hS rfl (fun wq hq => Y.move rfl) ?_
 refine RH.tk 16 hS rfl (fun wq hq => Y.indexAddrN (i := 3) Tryz.underlying136 rfl rfl sz0_uint32 de_) ?_
 refine RH.tk 17 hS rfl (fun wq hq => Y.load1 Tryz.underlying137 rfl ((hs.ext (hE.thenExt hq)).wd (i := 3) rfl) rfl) ?_
 refine RH.tk 18 hS rfl (fun wq hq => Y.move rfl) ?_
 refine RH.tk 19 hS rfl (fun wq hq => Y.addW rfl rfl) ?_
 refine RH.tk 20 hS rfl (fun wq hq => Y.move rfl) ?_
 refine RH.tk 21 hS rfl (fun wq hq => Y.indexAddrN (i := 4) Tryz.underlying136 rfl rfl sz0_uint32 de_) ?_
 refine RH.tk 22 hS rfl (fun wq hq => Y.load1 Tryz.underlying137 rfl ((hs.ext (hE.thenExt hq)).wd (i := 4) rfl) rfl) ?_
 refine RH.tk 23 hS rfl (fun wq hq => Y.move rfl) ?_
 refine RH.tk 24 hS rfl (fun wq hq => Y.addW rfl rfl) ?_
 refine RH.tk 25 hS rfl (fun wq hq => Y.move rfl) ?_
 refine RH.tk 26 hS rfl (fun wq hq => Y.indexAddrN (i := 5) Tryz.underlying136 rfl rfl sz0_uint32 de_) ?_
 refine RH.tk 27 hS rfl (fun wq hq => Y.load1 Tryz.underlying137 rfl ((hs.ext (hE.thenExt hq)).wd (i := 5) rfl) rfl) ?_
 refine RH.tk 28 hS rfl (fun wq hq => Y.move rfl) ?_
 refine RH.tk 29 hS rfl (fun wq hq => Y.addW rfl rfl) ?_
 refine RH.tk 30 hS rfl (fun wq hq => Y.move rfl) ?_
 refine RH.tk 31 hS rfl (fun wq hq => Y.indexAddrN (i := 6) Tryz.underlying136 rfl rfl sz0_uint32 de_) ?_
 refine RH.tk 32 hS rfl (fun wq hq => Y.load1 Tryz.underlying137 rfl ((hs.ext (hE.thenExt hq)).wd (i := 6) rfl) rfl) ?_
 refine RH.tk 33 hS rfl (fun wq hq => Y.move rfl) ?_
 refine RH.tk 34 hS rfl (fun wq hq => Y.addW rfl rfl) ?_
 refine RH.tk 35 hS rfl (fun wq hq => Y.move rfl) ?_
 refine RH.tk 36 hS rfl (fun wq hq => Y.indexAddrN (i := 7) Tryz.underlying136 rfl rfl sz0_uint32 de_) ?_
 refine RH.tk 37 hS rfl (fun wq hq => Y.load1 Tryz.underlying137 rfl ((hs.ext (hE.thenExt hq)).wd (i := 7) rfl) rfl) ?_
 refine RH.tk 38 hS rfl (fun wq hq => Y.move rfl) ?_
 refine RH.tk 39 hS rfl (fun wq hq => Y.addW rfl rfl) ?_
 refine RH.one 40 kr_ ?_
 refine RS.st rfl (St.buildSlice rfl (bs8_w (⟨s.a + v.a, s.b + v.b, s.c + v.c, s.d + v.d, s.e + v.e, s.f + v.f, s.g + v.g, s.h + v.h⟩ : V8))) de_ fun v250 w21 hR21 => ?_
 have hzS := hS.size
 obtain ⟨g250, rfl, hg250, hB250, hx21⟩ := hR21
 have hz21 := hx21.size
 have hS := hS.thenExt hx21
 refine ⟨hS, ?_⟩
 refine RH.tk 41 hS rfl (fun wq hq => Y.assign rfl) ?_
 refine RH.done kr_ ?_
 have hx22 := hS; have hz22 := hx22.size; have hE := hE.thenExt hx22
 refine hK34 _ _ ?_; try clear hK34
 refine CW.ret ⟨_, rfl, ?_⟩
 have hvv : v = rounds (schedN b 64) 64 s := by rw [← hv, show x = 64 by omega]
 have e : mixV s b = (⟨s.a + v.a, s.b + v.b, s.c + v.c, s.d + v.d, s.e + v.e, s.f + v.f, s.g + v.g, s.h + v.h⟩ : V8) := by
  rw [mixV, ← hvv, V8.add]
  rw [UInt32.add_comm v.a s.a, UInt32.add_comm v.b s.b, UInt32.add_comm v.c s.c, UInt32.add_comm v.d s.d, UInt32.add_comm v.e s.e, UInt32.add_comm v.f s.f, UInt32.add_comm v.g s.g, UInt32.add_comm v.h s.h]
 refine ⟨g250, rfl, by omega, ?_, hE⟩
 rw [e]
 exact hB250
end Go.Proofs.YtfanmpbapabboaaGreatDoor
/- The padding of SHA-256: the reference's whole, walked. No condition. -/
namespace Go.Pl
open Go.Fw
def padZ (n : Nat) : Nat := (119 - n % 64) % 64
def lenByte (n j : Nat) : UInt8 := UInt8.ofNat (n * 8 / 2 ^ (56 - 8 * j))
def padB (n : Nat) : List UInt8 := 128 :: List.replicate (padZ n) 0 ++ (List.range 8).map (lenByte n)
def wholeB (b : List UInt8) : List UInt8 := b ++ padB b.length
theorem padB_len (n : Nat) : (padB n).length = padZ n + 9 := by simp [padB]
theorem wholeB_len (b : List UInt8) : (wholeB b).length % 64 = 0 := by
 rw [wholeB, List.length_append, padB_len]; unfold padZ; omega
end Go.Pl
namespace Go.Proofs.YtfanmpbapabboaaGreatDoor
open Go.RowKit Go.Fw Go.Pl
abbrev TB : TypeId := 5
theorem sh_q : ∀ j : Nat, j < 8 → IntKind.u64.wrap (8 * (7 - (j : Int))) = ((56 - 8 * j : Nat) : Int) := by decide +kernel
theorem sh_len {n : Nat} (h : n * 8 < 18446744073709551616) : IntKind.u64.wrap (IntKind.u64.wrap (n : Int) * 8) = ((n * 8 : Nat) : Int) := by
 rw [Fw.wrap64, Nat.mod_eq_of_lt om_, show ((n : Int) * 8) = ((n * 8 : Nat) : Int) by omega, Fw.wrap64, Nat.mod_eq_of_lt h]
theorem sh_div (p m : Nat) (hm : m ≤ 64) : (p : Int).fdiv (2 ^ (min (m : Int).toNat IntKind.u64.bits)) = ((p / 2 ^ m : Nat) : Int) := by
 have e : min (m : Int).toNat IntKind.u64.bits = m := by rw [Int.toNat_natCast]; exact Nat.min_eq_left hm
 have e2 : ((2 : Int) ^ m) = ((2 ^ m : Nat) : Int) := by simp
 rw [e, e2, Int.fdiv_eq_ediv_of_nonneg _ (Int.natCast_nonneg _), ← Int.natCast_ediv]
theorem whole_any (u : Value) (b : List UInt8) (w : World) (hb : By w u b) (hr : b.length ≤ 140737488351232) : Calls Tryz.prog 74 #[u] w (Ret fun v w' => Own w' TB 1 v (bytesC (wholeB b)) ∧ (∀ k, v.ownBlock = some k → w.heap.size ≤ k) ∧ Ext w w') := by
 obtain ⟨A, m, c, rfl⟩ := hb.lens
 obtain ⟨hm, hmc, hcm⟩ := hb.len
 have hpz : padZ b.length < 64 := by unfold padZ; omega
 refine calls_of_CW 36 [2] [(0, .slice A m c)] Tryz.func74 rfl rfl rfl (by simp) args1 ?_
 have hE : Ext w w := Chg.refl
 refine CW.sr fun K1 hK1 => ?_
 refine WL.a rfl ?_
 refine WL.nil (hK1 _ _ ?_); try clear hK1
 refine CW.sr fun K2 hK2 => ?_
 refine WL.st (St.buildSlice0 Tryz.underlying40 sz_uint8) de_ fun v6 w1 hR1 => ?_
 obtain ⟨g6, rfl, hg6, hO6, hx1⟩ := hR1
 have hz1 := hx1.size
 have hE := hE.thenExt hx1
 have hfu : ∀ k, (Value.slice (some ⟨g6, 0, none⟩) 0 0).ownBlock = some k → w.heap.size ≤ k := fun k h => by simp [Value.ownBlock] at h; omega
 refine WL.m rfl ?_
 refine WL.st (St.app (xs := []) (ys := b) Tryz.underlying40 Tryz.underlying40 ai_u8 rfl rfl hO6 (Src.by (hb.ext hE)) (by simp; omega)) de_ fun v8 w2 hR2 => ?_
 obtain ⟨hO2, hc2, hf2⟩ := hR2
 have hz2 := hc2.size
 have hE := hE.step hc2 (fun k h => hfu k h)
 have hf2 : ∀ k, v8.ownBlock = some k → w.heap.size ≤ k := by
  rcases hf2 with h | h
  ·
   intro k hk; rw [h] at hk; exact hfu k hk
  ·
   intro k hk; have := h k hk; omega
 have hfu := hf2
 have hO2 : Own w2 TB 1 v8 (bytesC b) := by simpa using hO2
 refine WL.st (St.buildSlice rfl (bs1 _)) de_ fun v9 w3 hR3 => ?_
 obtain ⟨g9, rfl, hg9, hB9, hx3⟩ := hR3
 have hz3 := hx3.size
 have hE := hE.thenExt hx3
 have hO2 := hO2.ext hx3
 refine WL.st (St.app (xs := b) (ys := [128]) Tryz.underlying40 Tryz.underlying40 ai_u8 rfl rfl hO2 (Src.arr (ys := [128]) hB9.mem) (by simp; omega)) de_ fun v10 w4 hR4 => ?_
 obtain ⟨hO4, hc4, hf4⟩ := hR4
 have hz4 := hc4.size
 have hE := hE.step hc4 (fun k h => hfu k h)
 have hf4 : ∀ k, v10.ownBlock = some k → w.heap.size ≤ k := by
  rcases hf4 with h | h
  ·
   intro k hk; rw [h] at hk; exact hfu k hk
  ·
   intro k hk; have := h k hk; omega
 have hfu := hf4
 refine WL.a rfl ?_
 refine WL.nil (hK2 _ _ ?_); try clear hK2
 refine CW.seq fun K3 hK3 => ?_
 refine CW.block ?_
 refine CW.loop (X := Nat × Value) (fun x => [(0, .slice A m c), (3, x.2)]) (fun x w0 => x.1 ≤ padZ b.length ∧ Ext w w0 ∧ Own w0 TB 1 x.2 (bytesC (b ++ 128 :: List.replicate x.1 0)) ∧ (∀ k, x.2.ownBlock = some k → w.heap.size ≤ k)) (fun x => padZ b.length - x.1) (0, v10) Fr.ok ⟨Nat.zero_le _, hE, by simpa using hO4, hfu⟩ ?_
 intro x w5 hl5
 clear hO4 hO2 hfu hE
 obtain ⟨x, u⟩ := x
 dsimp only at hl5 ⊢
 obtain ⟨hx, hE, hO, hfu⟩ := hl5
 obtain ⟨B, mb, cb, rfl⟩ := hO.lens
 have hlm := hO.by.len.1
 simp only [List.length_append, List.length_cons, List.length_replicate] at hlm
 have hz5 := hE.size
 refine CW.seq fun K4 hK4 => ?_
 refine CW.sr fun K5 hK5 => ?_
 refine WL.m rfl ?_
 refine WL.v (Y.len_slice Tryz.underlying40 rfl) ?_
 refine WL.v (Y.remN (q := 64) rfl rfl de_) ?_
 refine WL.v (Y.neq rfl rfl) ?_
 refine WL.nil (hK5 _ _ ?_); try clear hK5
 (first | refine cd_ rfl ?_ ?_ | refine ce_ rfl ?_ ?_ | refine cn_ rfl ?_ ?_ | refine cb_ rfl ?_ ?_) <;> intro ht6
 ·
  -- then
  refine CW.skip ?_
  refine hK4 _ _ ?_; try clear hK4
  refine CW.block ?_
  refine CW.region ?_
  refine WL.m rfl ?_
  refine WL.st (St.buildSlice rfl (bs1 _)) de_ fun v16 w6 hR6 => ?_
  obtain ⟨g16, rfl, hg16, hB16, hx6⟩ := hR6
  have hz6 := hx6.size
  have hE := hE.thenExt hx6
  have hO := hO.ext hx6
  refine WL.st (St.app (xs := b ++ 128 :: List.replicate x 0) (ys := [0]) Tryz.underlying40 Tryz.underlying40 ai_u8 rfl rfl hO (Src.arr (ys := [0]) hB16.mem) (by simp; omega)) de_ fun v17 w7 hR7 => ?_
  obtain ⟨hO7, hc7, hf7⟩ := hR7
  have hz7 := hc7.size
  have hE := hE.step hc7 (fun k h => hfu k h)
  have hf7 : ∀ k, v17.ownBlock = some k → w.heap.size ≤ k := by
   rcases hf7 with h | h
   ·
    intro k hk; rw [h] at hk; exact hfu k hk
   ·
    intro k hk; have := h k hk; omega
  have hfu := hf7
  refine WL.a rfl ?_
  refine WL.nil ?_
  have hlt : x < padZ b.length := by unfold padZ at hx ⊢; omega
  refine ⟨(x + 1, v17), by show padZ b.length - (x + 1) < padZ b.length - x; omega, Fr.ok, by show x + 1 ≤ padZ b.length; omega, hE, ?_, hf7⟩
  show Own _ TB 1 v17 (bytesC (b ++ 128 :: List.replicate (x + 1) 0))
  rw [List.replicate_succ', ← List.cons_append, ← List.append_assoc]
  exact hO7
 refine CW.exit ?_
 refine hK3 _ _ ?_; try clear hK3
 refine CW.sr fun K7 hK7 => ?_
 refine WL.m rfl ?_
 refine WL.v (Y.len_slice Tryz.underlying40 rfl) ?_
 refine WL.v (Y.conv_int Tryz.underlying3 Tryz.underlying156 rfl) ?_
 refine WL.v (Y.mul_k rfl rfl) ?_
 refine WL.a rfl ?_
 refine WL.nil (hK7 _ _ ?_); try clear hK7
 refine CW.seq fun K8 hK8 => ?_
 refine CW.sr fun K9 hK9 => ?_
 refine WL.a rfl ?_
 refine WL.nil (hK9 _ _ ?_); try clear hK9
 refine CW.block ?_
 refine CW.loop (X := Nat × Value) (fun x => [(3, x.2), (4, .int .u64 ((b.length * 8 : Nat) : Int)), (5, .int .i64 (7 - (x.1 : Int)))]) (fun x w0 => x.1 ≤ 8 ∧ Ext w w0 ∧ Own w0 TB 1 x.2 (bytesC (b ++ (128 :: List.replicate (padZ b.length) 0 ++ (List.range x.1).map (lenByte b.length)))) ∧ (∀ k, x.2.ownBlock = some k → w.heap.size ≤ k)) (fun x => 8 - x.1) (0, .slice B mb cb) (by show Fr.le [(3, .slice B mb cb), (4, .int .u64 ((b.length * 8 : Nat) : Int)), (5, .int .i64 (7 - ((0 : Nat) : Int)))] _; rw [← sh_len (n := b.length) om_, hm]; exact Fr.ok) ⟨Nat.zero_le _, hE, (by rw [show x = padZ b.length by (unfold padZ at hx ⊢; omega)] at hO; simpa using hO), hfu⟩ ?_
 intro x w8 hl8
 clear hO hfu hE hx
 obtain ⟨x, u⟩ := x
 dsimp only at hl8 ⊢
 obtain ⟨hx, hE, hO, hfu⟩ := hl8
 obtain ⟨B, mb, cb, rfl⟩ := hO.lens
 have hlm := hO.by.len.1
 simp only [List.length_append, List.length_cons, List.length_replicate, List.length_map, List.length_range] at hlm
 have hz8 := hE.size
 refine CW.seq fun K10 hK10 => ?_
 refine CW.sr fun K11 hK11 => ?_
 refine WL.m rfl ?_
 refine WL.v (Y.geq rfl rfl) ?_
 refine WL.nil (hK11 _ _ ?_); try clear hK11
 (first | refine cd_ rfl ?_ ?_ | refine ce_ rfl ?_ ?_ | refine cn_ rfl ?_ ?_ | refine cb_ rfl ?_ ?_) <;> intro ht12
 ·
  -- then
  refine CW.skip ?_
  refine hK10 _ _ ?_; try clear hK10
  refine CW.seq fun K13 hK13 => ?_
  refine CW.block ?_
  refine CW.region ?_
  refine WL.m rfl ?_
  refine WL.m rfl ?_
  refine WL.m rfl ?_
  refine WL.v (Y.mul rfl rfl o2_) ?_
  refine WL.v (Y.conv_int Tryz.underlying3 Tryz.underlying117 rfl) ?_
  refine WL.v (Y.shr rfl rfl (r := ((b.length * 8 / 2 ^ (56 - 8 * x) : Nat) : Int)) (by rw [sh_q x om_]; exact Int.natCast_nonneg _) (by rw [sh_q x om_]; exact sh_div _ _ om_)) ?_
  refine WL.v (Y.conv_int Tryz.underlying156 Tryz.underlying5 rfl) ?_
  refine WL.st (St.buildSlice rfl (bs1 _)) de_ fun v33 w9 hR9 => ?_
  obtain ⟨g33, rfl, hg33, hB33, hx9⟩ := hR9
  have hz9 := hx9.size
  have hE := hE.thenExt hx9
  have hO := hO.ext hx9
  rw [u8_of] at hB33
  refine WL.st (St.app (ys := [lenByte b.length x]) Tryz.underlying40 Tryz.underlying40 ai_u8 rfl rfl hO (Src.arr (ys := [lenByte b.length x]) hB33.mem) (by simp; omega)) de_ fun v34 w10 hR10 => ?_
  obtain ⟨hO10, hc10, hf10⟩ := hR10
  have hz10 := hc10.size
  have hE := hE.step hc10 (fun k h => hfu k h)
  have hf10 : ∀ k, v34.ownBlock = some k → w.heap.size ≤ k := by
   rcases hf10 with h | h
   ·
    intro k hk; rw [h] at hk; exact hfu k hk
   ·
    intro k hk; have := h k hk; omega
  have hfu := hf10
  refine WL.a rfl ?_
  refine WL.nil (hK13 _ _ ?_); try clear hK13
  refine CW.region ?_
  refine WL.m rfl ?_
  refine WL.v (Y.sub rfl rfl o2_) ?_
  refine WL.a rfl ?_
  refine WL.nil ?_
  have e : ((7 - ((x + 1 : Nat) : Int)) : Int) = 7 - (x : Int) - 1 := by omega
  refine ⟨(x + 1, v34), by show 8 - (x + 1) < 8 - x; omega, ?_, by show x + 1 ≤ 8; omega, hE, ?_, hf10⟩
  ·
   show Fr.le [(3, v34), (4, .int .u64 ((b.length * 8 : Nat) : Int)), (5, .int .i64 (7 - ((x + 1 : Nat) : Int)))] _
   rw [e]
   exact Fr.ok
  ·
   show Own _ TB 1 v34 (bytesC (b ++ (128 :: List.replicate (padZ b.length) 0 ++ (List.range (x + 1)).map (lenByte b.length))))
   rw [List.range_succ, List.map_append, ← List.append_assoc, ← List.append_assoc]
   simpa using hO10
 refine CW.exit ?_
 refine hK8 _ _ ?_; try clear hK8
 refine CW.sr fun K14 hK14 => ?_
 refine WL.m rfl ?_
 refine WL.a rfl ?_
 refine WL.nil (hK14 _ _ ?_); try clear hK14
 refine CW.ret ⟨_, rfl, ?_⟩
 refine ⟨?_, hfu, hE⟩
 rw [show x = 8 by omega] at hO
 exact hO
end Go.Proofs.YtfanmpbapabboaaGreatDoor
/- SHA-256 as the reference has it, walked: Sum. No condition. -/
namespace Go.Pl
open Go.Fw
def blk (l : List UInt8) (i : Nat) : List UInt8 := (l.drop (64 * i)).take 64
def blocksN (l : List UInt8) : Nat → V8
 | 0 => beginV
 | n + 1 => mixV (blocksN l n) (blk l n)
def digB (v : V8) (i : Nat) : UInt8 := (v.ws.getD (i / 4) 0 >>> UInt32.ofNat (24 - 8 * (i % 4))).toUInt8
def digsV (v : V8) : List UInt8 := (List.range 32).map (digB v)
def shaD (b : List UInt8) : Dig := ⟨digsV (blocksN (wholeB b) ((wholeB b).length / 64)), by simp [digsV]⟩
def beginL : List UInt8 := [54, 97, 48, 57, 101, 54, 54, 55, 98, 98, 54, 55, 97, 101, 56, 53, 51, 99, 54, 101, 102, 51, 55, 50, 97, 53, 52, 102, 102, 53, 51, 97, 53, 49, 48, 101, 53, 50, 55, 102, 57, 98, 48, 53, 54, 56, 56, 99, 49, 102, 56, 51, 100, 57, 97, 98, 53, 98, 101, 48, 99, 100, 49, 57]
theorem begin_ok : ∀ i : Nat, i < 8 → wordL beginL i 8 = beginV.ws.getD i 0 := by decide +kernel
theorem dig_split {x : Nat} (h : x < 32) (l : List UInt8) : bytesC (l ++ List.replicate (32 - x) 0) = bytesC l ++ [bc 0] ++ bytesC (List.replicate (31 - x) 0) := by
 rw [show 32 - x = (31 - x) + 1 by omega, List.replicate_succ, bytesC_append, List.append_assoc]
 rfl
end Go.Pl
namespace Go.Proofs.YtfanmpbapabboaaGreatDoor
open Go.RowKit Go.Fw Go.Pl
abbrev TDi : TypeId := 38
theorem begin_key {s : ByteArray} (h : s.data = beginL.toArray) {i : Nat} (hi : i < 8) : wd (wordL s.toList i 8) = wd (beginV.ws.getD i 0) := by
 rw [ByteArray.toList_eq, h]
 exact congrArg wd (begin_ok i hi)
theorem sh_d : ∀ r : Nat, r < 4 → IntKind.u64.wrap (24 - 8 * (r : Int)) = ((24 - 8 * r : Nat) : Int) := by decide +kernel
set_option maxRecDepth 20000 in
set_option maxHeartbeats 1000000 in
theorem rSum_any (u : Value) (b : List UInt8) (w : World) (hb : By w u b) (hr : b.length ≤ 140737488351232) : Calls Tryz.prog 53 #[u] w (Ret fun v w' => v = digV (shaD b) ∧ Ext w w') := by
 obtain ⟨A, m, c, rfl⟩ := hb.lens
 obtain ⟨hm, hmc, hcm⟩ := hb.len
 obtain ⟨id, hid, hzd, _⟩ := info_apiDigest
 refine calls_of_CWc 52 2 32 [(0, .slice A m c)] Tryz.func53 rfl rfl rfl Tryz.underlying38 rfl kr_ (by simp) args1 ?_
 have hE : Ext w w := Chg.refl
 refine CW.sr fun K1 hK1 => ?_
 refine WL.alloc (hid) (hzd) rfl de_ fun g2 w1 hx1 hg2 hB2 => ?_
 have hlt2 := hB2.lt; have hz1 := hx1.size
 have hM2 := hB2.mem; have hz1 := hx1.size; have hE := hE.thenExt hx1
 refine WL.nil (hK1 _ _ ?_); try clear hK1
 refine CW.sr fun K2 hK2 => ?_
 refine WL.a rfl ?_
 refine WL.nil (hK2 _ _ ?_); try clear hK2
 refine CW.seq fun K3 hK3 => ?_
 refine CW.sr fun K4 hK4 => ?_
 refine WL.a rfl ?_
 refine WL.nil (hK4 _ _ ?_); try clear hK4
 refine CW.block ?_
 refine CW.loop (X := Nat × Value) (fun x => [(0, .slice A m c), (2, .pointer (some ⟨g2, 0, none⟩)), (3, x.2), (4, .int .i64 (x.1 : Int))]) (fun x w0 => x.1 ≤ 8 ∧ Ext w w0 ∧ Blk w0 g2 TDi (digC Dig.zero) ∧ Own w0 TW 1 x.2 (wds (beginV.ws.take x.1)) ∧ (∀ k, x.2.ownBlock = some k → w1.heap.size ≤ k) ∧ w1.heap.size ≤ w0.heap.size) (fun x => 8 - x.1) (0, .slice none 0 0) Fr.ok ⟨Nat.zero_le _, hE, hB2, Own.nil, (fun k h => by simp [Value.ownBlock] at h), Nat.le_refl _⟩ ?_
 intro x w2 hl2
 obtain ⟨x, u⟩ := x
 dsimp only at hl2 ⊢
 obtain ⟨hx, hE, hB2, hO, hfu, hzz⟩ := hl2
 obtain ⟨B, mb, cb, rfl⟩ := hO.lens
 refine CW.seq fun K5 hK5 => ?_
 refine CW.sr fun K6 hK6 => ?_
 refine WL.m rfl ?_
 refine WL.v (Y.lss rfl rfl) ?_
 refine WL.nil (hK6 _ _ ?_); try clear hK6
 (first | refine cd_ rfl ?_ ?_ | refine ce_ rfl ?_ ?_ | refine cn_ rfl ?_ ?_ | refine cb_ rfl ?_ ?_) <;> intro ht7
 ·
  -- then
  refine CW.skip ?_
  refine hK5 _ _ ?_; try clear hK5
  refine CW.seq fun K8 hK8 => ?_
  refine CW.block ?_
  refine CW.region ?_
  refine WL.m rfl ?_
  refine WL.m rfl ?_
  refine WL.call Tryz.func73 rfl rfl rfl (word_any _ x _ (by show 8 * x + 8 ≤ 64; omega) (by show 64 ≤ _; decide)) (by simp) ?_; rintro v w3 ⟨rfl, hx3⟩; have hz3 := hx3.size; have hE := hE.thenExt hx3; have hB2 := hB2.ext hx3
  refine WL.know (d := 15) (u := wd (beginV.ws.getD x 0)) rfl (begin_key rfl om_) ?_
  refine WL.st (St.buildSlice rfl (bs1_w _)) de_ fun v16 w4 hR4 => ?_
  obtain ⟨g16, rfl, hg16, hB16, hx4⟩ := hR4
  have hz4 := hx4.size
  have hE := hE.thenExt hx4
  have hB2 := hB2.ext hx4
  have hO := hO.ext (hx3.thenExt hx4)
  refine WL.st (St.append Tryz.underlying136 Tryz.underlying136 ai_w rfl rfl hO (Src.one hB16 rfl) (one1 rfl) (by rw [List.length_map, List.length_take]; omega)) de_ fun v17 w5 hR5 => ?_
  obtain ⟨hO5, hc5, hf5⟩ := hR5
  have hz5 := hc5.size
  have hE := hE.step hc5 (fun k h => by have := hfu k h; omega)
  have hB2 := hB2.chg hc5 (fun h => by have := hfu _ h; omega)
  have hf5 : ∀ k, v17.ownBlock = some k → w1.heap.size ≤ k := by
   rcases hf5 with h | h
   ·
    intro k hk; rw [h] at hk; exact hfu k hk
   ·
    intro k hk; have := h k hk; omega
  refine WL.a rfl ?_
  refine WL.nil (hK8 _ _ ?_); try clear hK8
  refine CW.region ?_
  refine WL.m rfl ?_
  refine WL.v (Y.add rfl rfl o2_) ?_
  refine WL.a rfl ?_
  refine WL.nil ?_
  refine ⟨(x + 1, v17), by show 8 - (x + 1) < 8 - x; omega, Fr.ok, by show x + 1 ≤ 8; omega, hE, hB2, ?_, hf5, by omega⟩
  show Own _ TW 1 v17 (wds (beginV.ws.take (x + 1)))
  rw [take_succ (ws_get om_), wds, List.map_append]
  exact hO5
 refine CW.exit ?_
 refine hK3 _ _ ?_; try clear hK3
 refine CW.seq fun K9 hK9 => ?_
 have hx8 : x = 8 := by omega
 rw [hx8] at hO
 obtain ⟨hA, _, hlm, _, _⟩ := hO.mem B mb cb rfl
 have hlm8 : mb = 8 := by
  have h : (wds (beginV.ws.take 8)).length = 8 := rfl
  omega
 subst hlm8
 obtain ⟨sa, rfl, hsa⟩ := hA de_
 have hsa : Mem w2 sa (wds beginV.ws) := hsa
 refine CW.region ?_
 refine WL.m rfl ?_
 refine WL.call Tryz.func74 rfl rfl rfl (whole_any _ b _ (hb.ext hE) hr) (by simp) ?_; rintro v19 w6 hR6
 obtain ⟨hO6, hf6, hx6⟩ := hR6
 have hz6 := hx6.size
 have hE := hE.thenExt hx6
 have hB2 := hB2.ext hx6
 have hsa := hsa.ext hx6
 have hW := hO6.by
 obtain ⟨WA, wm, wc, rfl⟩ := hW.lens
 obtain ⟨hwm, hwc, hwM⟩ := hW.len
 have hwl : wm = b.length + (padZ b.length + 9) := by rw [← hwm, wholeB, List.length_append, padB_len]
 have hpz : padZ b.length < 64 := by unfold padZ; omega
 obtain ⟨WA, rfl, hWM⟩ := hW.mem.1 om_
 have hw64 := wholeB_len b
 refine WL.a rfl ?_
 refine WL.nil (hK9 _ _ ?_); try clear hK9
 refine CW.seq fun K10 hK10 => ?_
 refine CW.sr fun K11 hK11 => ?_
 refine WL.a rfl ?_
 refine WL.nil (hK11 _ _ ?_); try clear hK11
 refine CW.block ?_
 refine CW.loop (X := Nat × Addr × Nat) (fun x => [(2, .pointer (some ⟨g2, 0, none⟩)), (3, .slice (some x.2.1) 8 x.2.2), (5, .slice (some WA) wm wc), (6, .int .i64 ((64 * x.1 : Nat) : Int))]) (fun x w0 => 64 * x.1 ≤ wm ∧ Ext w6 w0 ∧ Mem w0 x.2.1 (wds (blocksN (wholeB b) x.1).ws)) (fun x => wm - 64 * x.1) (0, sa, cb) Fr.ok ⟨Nat.zero_le _, Chg.refl, hsa⟩ ?_
 intro x w7 hl7
 obtain ⟨q, ta, tc⟩ := x
 dsimp only at hl7 ⊢
 obtain ⟨hq1, hy7, hT⟩ := hl7
 have hE := hE.thenExt hy7
 have hB2 := hB2.ext hy7
 have hWM7 := hWM.ext hy7
 have hz7 := hy7.size
 refine CW.seq fun K12 hK12 => ?_
 refine CW.sr fun K13 hK13 => ?_
 refine WL.m rfl ?_
 refine WL.m rfl ?_
 refine WL.v (Y.len_slice Tryz.underlying40 rfl) ?_
 refine WL.v (Y.lss rfl rfl) ?_
 refine WL.nil (hK13 _ _ ?_); try clear hK13
 (first | refine cd_ rfl ?_ ?_ | refine ce_ rfl ?_ ?_ | refine cn_ rfl ?_ ?_ | refine cb_ rfl ?_ ?_) <;> intro ht14
 ·
  -- then
  refine CW.skip ?_
  refine hK12 _ _ ?_; try clear hK12
  refine CW.seq fun K15 hK15 => ?_
  refine CW.block ?_
  refine CW.region ?_
  refine WL.m rfl ?_
  refine WL.m rfl ?_
  refine WL.m rfl ?_
  refine WL.m rfl ?_
  refine WL.v (Y.add rfl rfl o2_) ?_
  refine WL.v (Y.slice_sl Tryz.underlying40 rfl rfl rfl sz0_uint8 (i := 64 * q) (j := 64 * q + 64) om_ om_) ?_
  have hj : 64 * q + 64 - 64 * q = 64 := by omega
  have hbk := By.slMem hWM7 hwm hwc (i := 64 * q) (j := 64 * q + 64) om_ om_
  rw [hj] at hbk
  have hbl : (blk (wholeB b) q).length = 64 := by rw [blk, List.length_take, List.length_drop, hwm]; omega
  refine WL.call Tryz.func75 rfl rfl rfl (mix_any _ ta tc _ (blk (wholeB b) q) _ hT ⟨_, _, _, rfl, by rw [hj]; exact hbl, by omega, by omega, fun _ => ⟨_, rfl, hbk⟩, fun h => by cases h⟩ hbl) (by simp) ?_; rintro v32 w8 hR8
  obtain ⟨g32, rfl, hg32, hB32, hx8⟩ := hR8
  have hz8 := hx8.size
  have hE := hE.thenExt hx8
  have hB2 := hB2.ext hx8
  refine WL.a rfl ?_
  refine WL.nil (hK15 _ _ ?_); try clear hK15
  refine CW.region ?_
  refine WL.m rfl ?_
  refine WL.v (Y.add rfl rfl o2_) ?_
  refine WL.a rfl ?_
  refine WL.nil ?_
  refine ⟨(q + 1, ⟨g32, 0, none⟩, 8), by show wm - 64 * (q + 1) < wm - 64 * q; omega, ?_, by show 64 * (q + 1) ≤ wm; omega, hy7.thenExt hx8, hB32.mem⟩
  show Fr.le [(2, .pointer (some ⟨g2, 0, none⟩)), (3, .slice (some ⟨g32, 0, none⟩) 8 8), (5, .slice (some WA) wm wc), (6, .int .i64 ((64 * (q + 1) : Nat) : Int))] _
  rw [show ((64 * (q + 1) : Nat) : Int) = ((64 * q : Nat) : Int) + 64 by omega]
  exact Fr.ok
 refine CW.exit ?_
 refine hK10 _ _ ?_; try clear hK10
 refine CW.seq fun K16 hK16 => ?_
 have hqe : (wholeB b).length / 64 = q := by omega
 have hta : ta.block < w7.heap.size := hT.lt (fun h => by cases h)
 refine CW.region ?_
 refine WL.alloc (hid) (hzd) rfl de_ fun g7 w9 hx9 hg7 hB7 => ?_
 have hlt7 := hB7.lt; have hz9 := hx9.size
 have hM7 := hB7.mem; have hz9 := hx9.size; have hE := hE.thenExt hx9; have hB2 := hB2.ext hx9
 refine WL.nil (hK16 _ _ ?_); try clear hK16
 refine CW.seq fun K17 hK17 => ?_
 refine CW.seq fun K18 hK18 => ?_
 have hB7 := (show Blk w9 g7 TDi (bytesC ((List.range 0).map (digB (blocksN (wholeB b) q)) ++ List.replicate (32 - 0) 0)) by
  have e : digC Dig.zero = bytesC (List.replicate 32 0) := rfl
  rw [e] at hB7
  simpa using hB7)
 refine CW.region ?_
 refine WL.a rfl ?_
 refine WL.nil (hK18 _ _ ?_); try clear hK18
 refine CW.block ?_
 refine CW.loop (X := Nat) (fun x => [(2, .pointer (some ⟨g2, 0, none⟩)), (3, .slice (some ta) 8 tc), (7, .pointer (some ⟨g7, 0, none⟩)), (8, .int .i64 (x : Int))]) (fun x w0 => x ≤ 32 ∧ Ext w w0 ∧ Blk w0 g2 TDi (digC Dig.zero) ∧ Mem w0 ta (wds (blocksN (wholeB b) q).ws) ∧ Blk w0 g7 TDi (bytesC ((List.range x).map (digB (blocksN (wholeB b) q)) ++ List.replicate (32 - x) 0))) (fun x => 32 - x) 0 Fr.ok ⟨Nat.zero_le _, hE, hB2, hT.ext hx9, hB7⟩ ?_
 intro x w10 hl10
 clear hE hB2 hT hB7
 obtain ⟨hx, hE, hB2, hT, hB7⟩ := hl10
 have hz10 := hE.size
 refine CW.seq fun K19 hK19 => ?_
 refine CW.sr fun K20 hK20 => ?_
 refine WL.m rfl ?_
 refine WL.v (Y.lss rfl rfl) ?_
 refine WL.nil (hK20 _ _ ?_); try clear hK20
 (first | refine cd_ rfl ?_ ?_ | refine ce_ rfl ?_ ?_ | refine cn_ rfl ?_ ?_ | refine cb_ rfl ?_ ?_) <;> intro ht21
 ·
  -- then
  refine CW.skip ?_
  refine hK19 _ _ ?_; try clear hK19
  refine CW.seq fun K22 hK22 => ?_
  refine CW.block ?_
  refine CW.region ?_
  refine WL.m rfl ?_
  refine WL.m rfl ?_
  refine WL.m rfl ?_
  refine WL.v (Y.quoN (q := 4) rfl rfl de_) ?_
  refine WL.v (Y.indexAddrN Tryz.underlying136 rfl rfl sz0_uint32 om_) ?_
  refine WL.v (Y.load1 Tryz.underlying137 rfl (hT.wd (ws_get om_)) rfl) ?_
  refine WL.m rfl ?_
  refine WL.v (Y.remN (q := 4) rfl rfl de_) ?_
  refine WL.v (Y.mul rfl rfl o2_) ?_
  refine WL.v (Y.sub rfl rfl o2_) ?_
  refine WL.v (Y.conv_int Tryz.underlying3 Tryz.underlying117 rfl) ?_
  refine WL.v (Y.shrW (24 - 8 * (x % 4)) rfl rfl (sh_d _ om_) om_) ?_
  refine WL.v (Y.convW8 Tryz.underlying137 Tryz.underlying5 rfl) ?_
  refine WL.v (Y.indexAddrAN Tryz.underlying38 rfl rfl sz0_uint8 om_) ?_
  refine WL.store (g := g7) (pre := bytesC ((List.range x).map (digB (blocksN (wholeB b) q)))) (old := [bc 0]) (post := bytesC (List.replicate (31 - x) 0)) (new := [bc (digB (blocksN (wholeB b) q) x)]) rfl (by rw [add_zero', bytesC_length, List.length_map, List.length_range, Nat.mul_one]) rfl rfl kr_ (by rw [← dig_split om_]; exact hB7) (by first | (simp only [List.length_cons, List.length_nil, List.length_map, List.length_replicate, V8.ws, digC_length]; done) | rfl | (simp [digC_length, opC_length]; done) | (simp only [digC_length, opC_length]; omega)) (one1 rfl) (fun w11 hc11 hB11_ => ?_)
  have hz11 := hc11.size; have hE := hE.step hc11 (fun k h => by omega); have hB2 := hB2.chg hc11 no_
  have hB7 := (show Blk w11 g7 TDi (bytesC ((List.range (x + 1)).map (digB (blocksN (wholeB b) q)) ++ List.replicate (32 - (x + 1)) 0)) by
   rw [List.range_succ, List.map_append, show 32 - (x + 1) = 31 - x by omega, bytesC_append, bytesC_append]; exact hB11_)
  have hT := hT.chg hc11 no_
  refine WL.nil (hK22 _ _ ?_); try clear hK22
  refine CW.region ?_
  refine WL.m rfl ?_
  refine WL.v (Y.add rfl rfl o2_) ?_
  refine WL.a rfl ?_
  refine WL.nil ?_
  refine ⟨x + 1, by show 32 - (x + 1) < 32 - x; omega, Fr.ok, by show x + 1 ≤ 32; omega, hE, hB2, hT, hB7⟩
 refine CW.exit ?_
 refine hK17 _ _ ?_; try clear hK17
 refine CW.seq fun K23 hK23 => ?_
 have hB7 := (show Blk w10 g7 TDi (digC (shaD b)) by
  have e : digC (shaD b) = bytesC (digsV (blocksN (wholeB b) q)) := by show bytesC (digsV (blocksN (wholeB b) ((wholeB b).length / 64))) = _; rw [hqe]
  rw [e, digsV]
  rw [show x = 32 by omega] at hB7
  simpa using hB7)
 refine CW.region ?_
 refine WL.v (Y.load Tryz.underlying38 rfl hB7.mem (sz_apiDigest _) rfl) ?_
 refine WL.store (g := g2) (pre := []) (old := digC Dig.zero) (post := []) (new := digC (shaD b)) rfl rfl rfl rfl (sz_apiDigest _) (by simpa using hB2) (by first | (simp only [List.length_cons, List.length_nil, List.length_map, List.length_replicate, V8.ws, digC_length]; done) | rfl | (simp [digC_length, opC_length]; done) | (simp only [digC_length, opC_length]; omega)) (one_digC) (fun w12 hc12 hB12_ => ?_)
 have hz12 := hc12.size; have hE := hE.step hc12 (fun k h => by omega); have hB7 := hB7.chg hc12 no_
 have hB2 : Blk w12 g2 TDi (digC (shaD b)) := by simpa using hB12_
 refine WL.nil (hK23 _ _ ?_); try clear hK23
 refine CW.ret ?_
 exact ⟨_, _, rfl, hB2.mem, digC_length _, rfl, hE⟩
end Go.Proofs.YtfanmpbapabboaaGreatDoor
