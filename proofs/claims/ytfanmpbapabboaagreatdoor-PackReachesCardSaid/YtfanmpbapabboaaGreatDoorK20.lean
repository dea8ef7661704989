/- Parts of a proof: what its last text leans on. No condition. -/
import Derived.Test.YtfanmpbapabboaaGreatDoorK10
set_option linter.unusedSimpArgs false
set_option linter.unusedVariables false
/- The reference's readers, walked: GetNum, GetText, digest. No condition. -/
namespace Go.Fw
open Go.RowKit
theorem extract_bs {s : ByteArray} {i j : Nat} (h : j ≤ s.size) : s.extract i j = bs ((s.toList.drop i).take (j - i)) := by
 apply ByteArray.ext
 rw [ByteArray.data_extract]
 have e : s.toList = s.data.toList := by rw [ByteArray.toList_eq]
 rw [e]
 show s.data.extract i j = ((s.data.toList.drop i).take (j - i)).toArray
 apply Array.ext'
 simp [Array.toList_extract, List.extract_eq_take_drop]
end Go.Fw
namespace Go.Proofs.YtfanmpbapabboaaGreatDoor
open Go.RowKit Go.Fw Go.Pl
theorem rGetNum_any (s : ByteArray) (at_ : Nat) (w : World) (hsm : s.size ≤ 9223372036854775000) (hat : at_ ≤ s.size) : Calls Tryz.prog 30 #[.string s, .int .i64 (at_ : Int)] w (Ret fun v w' => v = gnumV s.toList at_ ∧ Ext w w') := by
 have hsl := toList_length s
 refine calls_of_CW 59 [4, 5, 6] [(0, .string s), (1, .int .i64 (at_ : Int))] Tryz.func30 rfl rfl rfl (by simp) args2 ?_
 refine CW.sr fun K1 hK1 => ?_
 refine WL.a rfl ?_
 refine WL.a rfl ?_
 refine WL.a rfl ?_
 refine WL.nil (hK1 _ _ ?_); try clear hK1
 refine CW.seq fun K2 hK2 => ?_
 refine CW.seq_test 17 ((at_ : Int) < 0 ∨ (s.size : Int) < at_) ?_ ?_
 ·
  refine CW.region ?_
  refine WL.m rfl ?_
  refine WL.v (Y.lss rfl rfl) ?_
  refine WL.m rfl ?_
  (first | refine WL.casesD (d := 12) rfl ?_ ?_ | refine WL.casesND (d := 12) rfl ?_ ?_ | refine WL.cases (d := 12) rfl ?_ ?_) <;> intro hg12
  ·
   -- t12 = T
   refine WL.o rfl rfl ?_
   refine WL.o rfl rfl ?_
   refine WL.o rfl rfl ?_
   refine WL.o rfl rfl ?_
   refine WL.v (Y.pick rfl rfl) ?_
   refine WL.nil ⟨⟨_, rfl, ?_⟩, rfl, Fr.okp⟩
   exact tst_ok
  ·
   -- t12 = F
   refine WL.g rfl rfl (Y.move rfl) ?_
   refine WL.g rfl rfl (Y.move rfl) ?_
   refine WL.g rfl rfl (Y.len_string Tryz.underlying9 rfl) ?_
   refine WL.g rfl rfl (Y.gtr rfl rfl) ?_
   refine WL.v (Y.pick rfl rfl) ?_
   refine WL.nil ⟨⟨_, rfl, ?_⟩, rfl, Fr.okp⟩
   exact tst_ok
 (first | refine cd_ rfl ?_ ?_ | refine ce_ rfl ?_ ?_ | refine cn_ rfl ?_ ?_ | refine cb_ rfl ?_ ?_) <;> intro ht3
 ·
  -- then
  refine CW.sr fun K4 hK4 => ?_
  refine WL.a rfl ?_
  refine WL.a rfl ?_
  refine WL.a rfl ?_
  refine WL.nil (hK4 _ _ ?_); try clear hK4
  refine CW.ret ⟨_, rfl, ?_⟩
  exfalso; omega
 refine CW.skip ?_
 refine hK2 _ _ ?_; try clear hK2
 refine CW.sr fun K5 hK5 => ?_
 refine WL.a rfl ?_
 refine WL.nil (hK5 _ _ ?_); try clear hK5
 refine CW.seq fun K6 hK6 => ?_
 refine CW.sr fun K7 hK7 => ?_
 refine WL.a rfl ?_
 refine WL.nil (hK7 _ _ ?_); try clear hK7
 refine CW.block ?_
 refine CW.loop (X := Nat × Nat) (fun x => [(0, .string s), (1, .int .i64 (at_ : Int)), (7, .int .i64 (x.2 : Int)), (8, .int .i64 (x.1 : Int))]) (fun x w0 => x.1 ≤ 8 ∧ x.2 < 128 ^ x.1 ∧ gn 0 0 (s.toList.drop at_) = gn x.1 x.2 (s.toList.drop (at_ + x.1)) ∧ Ext w w0) (fun x => 9 - x.1) (0, 0) Fr.ok ⟨Nat.zero_le _, (by show 0 < 128 ^ 0; decide), rfl, Chg.refl⟩ ?_
 intro x w1 hl1
 obtain ⟨i, t⟩ := x
 dsimp only at hl1 ⊢
 obtain ⟨hi, hs, hg, hL1⟩ := hl1
 have hV := gnumV_of hg
 refine CW.seq fun K8 hK8 => ?_
 refine CW.sr fun K9 hK9 => ?_
 refine WL.m rfl ?_
 refine WL.m rfl ?_
 refine WL.v (Y.len_string Tryz.underlying9 rfl) ?_
 refine WL.m rfl ?_
 refine WL.v (Y.sub rfl rfl o2_) ?_
 refine WL.v (Y.lss rfl rfl) ?_
 refine WL.nil (hK9 _ _ ?_); try clear hK9
 (first | refine cd_ rfl ?_ ?_ | refine ce_ rfl ?_ ?_ | refine cn_ rfl ?_ ?_ | refine cb_ rfl ?_ ?_) <;> intro ht10
 ·
  -- then
  refine CW.skip ?_
  refine hK8 _ _ ?_; try clear hK8
  refine CW.seq fun K11 hK11 => ?_
  refine CW.block ?_
  refine CW.sr fun K12 hK12 => ?_
  refine WL.m rfl ?_
  refine WL.m rfl ?_
  refine WL.m rfl ?_
  refine WL.v (Y.add rfl rfl o2_) ?_
  have hb := get_toList (s := s) (i := at_ + i) om_
  rw [drop_at hb, gn] at hV hg
  have hc := s[at_ + i].toNat_lt
  have hlh := (low_high hs (y := s[at_ + i].toNat % 128) om_ hi).2
  refine WL.v (Y.index_string (i := at_ + i) Tryz.underlying9 rfl rfl om_) ?_
  refine WL.v (Y.conv_nat Tryz.underlying5 Tryz.underlying3 rfl om_) ?_
  refine WL.a rfl ?_
  refine WL.nil (hK12 _ _ ?_); try clear hK12
  refine CW.seq fun K13 hK13 => ?_
  refine CW.seq_test 37 (128 ≤ s[at_ + i].toNat ∧ i + 1 = 9) ?_ ?_
  ·
   refine CW.region ?_
   refine WL.m rfl ?_
   refine WL.v (Y.geq rfl rfl) ?_
   refine WL.m rfl ?_
   (first | refine WL.casesD (d := 34) rfl ?_ ?_ | refine WL.casesND (d := 34) rfl ?_ ?_ | refine WL.cases (d := 34) rfl ?_ ?_) <;> intro hg34
   ·
    -- t34 = T
    refine WL.g rfl rfl (Y.move rfl) ?_
    refine WL.g rfl rfl (Y.eql rfl rfl) ?_
    refine WL.v (Y.pick rfl rfl) ?_
    refine WL.nil ⟨⟨_, rfl, ?_⟩, rfl, Fr.okp⟩
    exact tst_ok
   ·
    -- t34 = F
    refine WL.o rfl rfl ?_
    refine WL.o rfl rfl ?_
    refine WL.v (Y.pick rfl rfl) ?_
    refine WL.nil ⟨⟨_, rfl, ?_⟩, rfl, Fr.okp⟩
    exact tst_ok
  (first | refine cd_ rfl ?_ ?_ | refine ce_ rfl ?_ ?_ | refine cn_ rfl ?_ ?_ | refine cb_ rfl ?_ ?_) <;> intro ht14
  ·
   -- then
   refine CW.sr fun K15 hK15 => ?_
   refine WL.a rfl ?_
   refine WL.a rfl ?_
   refine WL.a rfl ?_
   refine WL.nil (hK15 _ _ ?_); try clear hK15
   refine CW.ret ⟨_, rfl, ?_⟩
   exact ⟨by rw [hV, if_pos (by assumption)], hL1⟩
  refine CW.skip ?_
  refine hK13 _ _ ?_; try clear hK13
  refine CW.seq fun K16 hK16 => ?_
  refine CW.seq_test 43 (s[at_ + i].toNat = 0 ∧ 0 < i) ?_ ?_
  ·
   refine CW.region ?_
   refine WL.m rfl ?_
   refine WL.v (Y.eql rfl rfl) ?_
   refine WL.m rfl ?_
   (first | refine WL.casesD (d := 40) rfl ?_ ?_ | refine WL.casesND (d := 40) rfl ?_ ?_ | refine WL.cases (d := 40) rfl ?_ ?_) <;> intro hg40
   ·
    -- t40 = T
    refine WL.g rfl rfl (Y.move rfl) ?_
    refine WL.g rfl rfl (Y.gtr rfl rfl) ?_
    refine WL.v (Y.pick rfl rfl) ?_
    refine WL.nil ⟨⟨_, rfl, ?_⟩, rfl, Fr.okp⟩
    exact tst_ok
   ·
    -- t40 = F
    refine WL.o rfl rfl ?_
    refine WL.o rfl rfl ?_
    refine WL.v (Y.pick rfl rfl) ?_
    refine WL.nil ⟨⟨_, rfl, ?_⟩, rfl, Fr.okp⟩
    exact tst_ok
  (first | refine cd_ rfl ?_ ?_ | refine ce_ rfl ?_ ?_ | refine cn_ rfl ?_ ?_ | refine cb_ rfl ?_ ?_) <;> intro ht17
  ·
   -- then
   refine CW.sr fun K18 hK18 => ?_
   refine WL.a rfl ?_
   refine WL.a rfl ?_
   refine WL.a rfl ?_
   refine WL.nil (hK18 _ _ ?_); try clear hK18
   refine CW.ret ⟨_, rfl, ?_⟩
   exact ⟨by rw [hV, if_neg (by assumption), if_pos (by assumption)], hL1⟩
  refine CW.skip ?_
  refine hK16 _ _ ?_; try clear hK16
  refine CW.sr fun K19 hK19 => ?_
  refine WL.m rfl ?_
  refine WL.m rfl ?_
  refine WL.v (Y.remN (q := 128) rfl rfl de_) ?_
  refine WL.m rfl ?_
  refine WL.v (Y.mul rfl rfl o2_) ?_
  refine WL.v (Y.conv_int Tryz.underlying3 Tryz.underlying117 rfl) ?_
  refine WL.v (Y.shl rfl rfl (r := ((s[at_ + i].toNat % 128 * 128 ^ i : Nat) : Int)) (by rw [IntWalk.u64_in _ o2_]; omega) (by rw [IntWalk.u64_in _ o2_]; exact shl_at om_ hi)) ?_
  refine WL.v (Y.add rfl rfl o2_) ?_
  refine WL.a rfl ?_
  refine WL.nil (hK19 _ _ ?_); try clear hK19
  refine CW.sr fun K20 hK20 => ?_
  refine WL.m rfl ?_
  refine WL.v (Y.lss rfl rfl) ?_
  refine WL.nil (hK20 _ _ ?_); try clear hK20
  (first | refine cd_ rfl ?_ ?_ | refine ce_ rfl ?_ ?_ | refine cn_ rfl ?_ ?_ | refine cb_ rfl ?_ ?_) <;> intro ht21
  ·
   -- then
   refine CW.sr fun K22 hK22 => ?_
   refine WL.m rfl ?_
   refine WL.m rfl ?_
   refine WL.m rfl ?_
   refine WL.v (Y.add rfl rfl o2_) ?_
   refine WL.v (Y.add rfl rfl o2_) ?_
   refine WL.a rfl ?_
   refine WL.a rfl ?_
   refine WL.a rfl ?_
   refine WL.nil (hK22 _ _ ?_); try clear hK22
   refine CW.ret ⟨_, rfl, ?_⟩
   exact ⟨by rw [hV, if_neg (by assumption), if_neg (by assumption), if_neg om_]; rfl, hL1⟩
  refine CW.skip ?_
  refine hK11 _ _ ?_; try clear hK11
  refine CW.region ?_
  refine WL.m rfl ?_
  refine WL.v (Y.add rfl rfl o2_) ?_
  refine WL.a rfl ?_
  refine WL.nil ?_
  refine ⟨(i + 1, t + s[at_ + i].toNat % 128 * 128 ^ i), by show 9 - (i + 1) < 9 - i; omega, Fr.ok, by show i + 1 ≤ 8; omega, (low_high hs om_ hi).1, ?_, hL1⟩
  show gn 0 0 _ = gn (i + 1) (t + s[at_ + i].toNat % 128 * 128 ^ i) (s.toList.drop (at_ + (i + 1)))
  rw [hg, if_neg (by assumption), if_neg (by assumption), if_pos om_]
  rfl
 refine CW.exit ?_
 refine hK6 _ _ ?_; try clear hK6
 refine CW.sr fun K23 hK23 => ?_
 refine WL.a rfl ?_
 refine WL.a rfl ?_
 refine WL.a rfl ?_
 refine WL.nil (hK23 _ _ ?_); try clear hK23
 refine CW.ret ⟨_, rfl, ?_⟩
 exact ⟨by rw [hV, List.drop_of_length_le om_]; rfl, hL1⟩
theorem rGetNum_t (s : ByteArray) (at_ : Nat) (w : World) (hsm : s.size ≤ 9223372036854775000) (hat : at_ ≤ s.size) : Calls Tryz.prog 30 #[.string s, .int .i64 (at_ : Int)] w (Ret fun v w' => v = .tuple #[.int .i64 (gN s.toList at_), .int .i64 (gX s.toList at_), .int .i64 (gE s.toList at_)] ∧ Ext w w') := by
 rw [← gnumV_t]; exact rGetNum_any s at_ w hsm hat
theorem rGetText_any (s : ByteArray) (at_ : Nat) (w : World) (hsm : s.size ≤ 9223372036854775000) (hat : at_ ≤ s.size) : Calls Tryz.prog 55 #[.string s, .int .i64 (at_ : Int)] w (Ret fun v w' => v = .tuple #[.string (bs (gtT s.toList at_)), .int .i64 (gtX s.toList at_), .int .i64 (gtE s.toList at_)] ∧ Ext w w') := by
 have hsl := toList_length s
 refine calls_of_CW 37 [4, 5, 6] [(0, .string s), (1, .int .i64 (at_ : Int))] Tryz.func55 rfl rfl rfl (by simp) args2 ?_
 refine CW.sr fun K1 hK1 => ?_
 refine WL.a rfl ?_
 refine WL.a rfl ?_
 refine WL.a rfl ?_
 refine WL.nil (hK1 _ _ ?_); try clear hK1
 refine CW.sr fun K2 hK2 => ?_
 refine WL.m rfl ?_
 refine WL.m rfl ?_
 refine WL.call Tryz.func30 rfl rfl rfl ((rGetNum_t s at_ _ hsm hat)) (by simp) ?_; rintro v w1 ⟨rfl, hx1⟩
 refine WL.m rfl ?_
 refine WL.v (Y.extract rfl rfl) ?_
 refine WL.v (Y.extract rfl rfl) ?_
 refine WL.v (Y.extract rfl rfl) ?_
 refine WL.a rfl ?_
 refine WL.a rfl ?_
 refine WL.a rfl ?_
 refine WL.nil (hK2 _ _ ?_); try clear hK2
 refine CW.seq fun K3 hK3 => ?_
 refine CW.sr fun K4 hK4 => ?_
 refine WL.m rfl ?_
 refine WL.v (Y.neq rfl rfl) ?_
 refine WL.nil (hK4 _ _ ?_); try clear hK4
 (first | refine cd_ rfl ?_ ?_ | refine ce_ rfl ?_ ?_ | refine cn_ rfl ?_ ?_ | refine cb_ rfl ?_ ?_) <;> intro ht5
 ·
  -- then
  refine CW.sr fun K6 hK6 => ?_
  refine WL.m rfl ?_
  refine WL.a rfl ?_
  refine WL.a rfl ?_
  refine WL.a rfl ?_
  refine WL.nil (hK6 _ _ ?_); try clear hK6
  refine CW.ret ⟨_, rfl, ?_⟩
  have h2 := gt_of_error (gtext_bad (gE_ne ht5).1)
  exact ⟨by rw [h2.1, h2.2.1, h2.2.2]; rfl, hx1⟩
 refine CW.skip ?_
 refine hK3 _ _ ?_; try clear hK3
 refine CW.seq fun K7 hK7 => ?_
 refine CW.seq fun K8 hK8 => ?_
 obtain ⟨n, nx, hg, hN, hX⟩ := gE_zero (Decidable.not_not.1 ht5)
 rw [hN, hX]
 have hlen := gnum_len hg om_
 refine CW.region ?_
 refine WL.m rfl ?_
 refine WL.v (Y.gtr rfl rfl) ?_
 refine WL.nil (hK8 _ _ ?_); try clear hK8
 (first | refine cd_ rfl ?_ ?_ | refine ce_ rfl ?_ ?_ | refine cn_ rfl ?_ ?_ | refine cb_ rfl ?_ ?_) <;> intro ht9
 ·
  -- then
  refine CW.sr fun K10 hK10 => ?_
  refine WL.a rfl ?_
  refine WL.a rfl ?_
  refine WL.a rfl ?_
  refine WL.nil (hK10 _ _ ?_); try clear hK10
  refine CW.ret ⟨_, rfl, ?_⟩
  have h2 := gt_of_error (bs := s.toList) (at_ := at_) (e := 3) (by rw [gtext_num hg, if_pos om_])
  exact ⟨by rw [h2.1, h2.2.1, h2.2.2]; rfl, hx1⟩
 refine CW.skip ?_
 refine hK7 _ _ ?_; try clear hK7
 refine CW.seq fun K11 hK11 => ?_
 refine CW.sr fun K12 hK12 => ?_
 refine WL.m rfl ?_
 refine WL.m rfl ?_
 refine WL.v (Y.len_string Tryz.underlying9 rfl) ?_
 refine WL.m rfl ?_
 refine WL.v (Y.sub rfl rfl o2_) ?_
 refine WL.v (Y.gtr rfl rfl) ?_
 refine WL.nil (hK12 _ _ ?_); try clear hK12
 (first | refine cd_ rfl ?_ ?_ | refine ce_ rfl ?_ ?_ | refine cn_ rfl ?_ ?_ | refine cb_ rfl ?_ ?_) <;> intro ht13
 ·
  -- then
  refine CW.sr fun K14 hK14 => ?_
  refine WL.a rfl ?_
  refine WL.a rfl ?_
  refine WL.a rfl ?_
  refine WL.nil (hK14 _ _ ?_); try clear hK14
  refine CW.ret ⟨_, rfl, ?_⟩
  have h2 := gt_of_error (bs := s.toList) (at_ := at_) (e := 8) (by rw [gtext_num hg, if_neg om_, if_pos om_])
  exact ⟨by rw [h2.1, h2.2.1, h2.2.2]; rfl, hx1⟩
 refine CW.skip ?_
 refine hK11 _ _ ?_; try clear hK11
 refine CW.sr fun K15 hK15 => ?_
 refine WL.m rfl ?_
 refine WL.m rfl ?_
 refine WL.m rfl ?_
 refine WL.m rfl ?_
 refine WL.v (Y.add rfl rfl o2_) ?_
 refine WL.v (Y.slice_str (i := nx) (j := nx + n) Tryz.underlying9 rfl rfl rfl rfl rfl om_ om_) ?_
 refine WL.m rfl ?_
 refine WL.m rfl ?_
 refine WL.v (Y.add rfl rfl o2_) ?_
 refine WL.a rfl ?_
 refine WL.a rfl ?_
 refine WL.a rfl ?_
 refine WL.nil (hK15 _ _ ?_); try clear hK15
 refine CW.ret ⟨_, rfl, ?_⟩
 have h2 := gt_of_ok (bs := s.toList) (at_ := at_) (t := (s.toList.drop nx).take n) (nx := nx + n) (by rw [gtext_num hg, if_neg om_, if_neg om_])
 exact ⟨by rw [h2.1, h2.2.1, h2.2.2, extract_bs om_, Nat.add_sub_cancel_left]; rfl, hx1⟩
end Go.Proofs.YtfanmpbapabboaaGreatDoor
/- The reference's readers, walked: digest, readOp. No condition. -/
namespace Go.Fw
open Go.RowKit
theorem dig_fill {b : List UInt8} {at_ x : Nat} (h : x < 32) : bytesC ((b.drop at_).take x ++ List.replicate (32 - x) 0) = bytesC ((b.drop at_).take x) ++ [bc 0] ++ bytesC (List.replicate (31 - x) 0) := by
 obtain ⟨k, hk⟩ : ∃ k, 32 - x = k + 1 := ⟨31 - x, by omega⟩
 rw [hk, List.replicate_succ, bytesC_append, show 31 - x = k by omega, List.append_assoc]
 rfl
theorem dig_more {b : List UInt8} {at_ x : Nat} {c : UInt8} (h : b[at_ + x]? = some c) : bytesC ((b.drop at_).take x) ++ [bc c] ++ bytesC (List.replicate (31 - x) 0) = bytesC ((b.drop at_).take (x + 1) ++ List.replicate (32 - (x + 1)) 0) := by
 have h1 : (b.drop at_)[x]? = some c := by rw [List.getElem?_drop]; exact h
 rw [List.take_add_one, h1, bytesC_append, bytesC_append, show 32 - (x + 1) = 31 - x by omega]
 rfl
abbrev opZ : OpD := ⟨0, false, RefD.zero, 0⟩
section
variable {k n : Int} {l o : Bool} {c : Dig} {b : UInt8}
theorem opCs_own : opC ⟨k, l, ⟨o, c, n⟩, b⟩ = [.int .i64 k, .bool l] ++ [.bool o] ++ (digC c ++ [.int .i64 n, bc b]) := by simp [opC, refC]
theorem opCs_c : opC ⟨k, l, ⟨o, c, n⟩, b⟩ = [.int .i64 k, .bool l, .bool o] ++ digC c ++ [.int .i64 n, bc b] := by simp [opC, refC]
theorem opCs_n : opC ⟨k, l, ⟨o, c, n⟩, b⟩ = (.int .i64 k :: .bool l :: .bool o :: digC c) ++ [.int .i64 n] ++ [bc b] := by simp [opC, refC]
theorem opCs_b : opC ⟨k, l, ⟨o, c, n⟩, b⟩ = (.int .i64 k :: .bool l :: .bool o :: (digC c ++ [.int .i64 n])) ++ [bc b] ++ [] := by simp [opC, refC]
end
end Go.Fw
namespace Go.Pl
open Go.Fw
def gdB (b : List UInt8) (at_ : Nat) : Bool := decide (at_ + 32 ≤ b.length)
def gdD (b : List UInt8) (at_ : Nat) : Dig := if h : at_ + 32 ≤ b.length then ⟨(b.drop at_).take 32, by rw [List.length_take, List.length_drop]; omega⟩ else Dig.zero
theorem gdB_yes {b : List UInt8} {at_ : Nat} (h : gdB b at_ = true) : gdig b at_ = .ok (gdD b at_, at_ + 32) ∧ at_ + 32 ≤ b.length := by
 have h' : at_ + 32 ≤ b.length := by simpa [gdB] using h
 rw [gdig, dif_pos h', gdD, dif_pos h']
 exact ⟨rfl, h'⟩
theorem gdB_no {b : List UInt8} {at_ : Nat} (h : gdB b at_ = false) : gdig b at_ = .error 8 := by
 have h' : ¬ at_ + 32 ≤ b.length := by simpa [gdB] using h
 rw [gdig, dif_neg h']
def goE (b : List UInt8) (at_ : Nat) : Int := match gop b at_ with | .error e => e | .ok _ => 0
def goV (b : List UInt8) (at_ : Nat) : OpD := match gop b at_ with | .error _ => opZ | .ok (x, _) => x
def goX (b : List UInt8) (at_ : Nat) : Int := match gop b at_ with | .error _ => 0 | .ok (_, a) => (a : Int)
theorem go_err {b : List UInt8} {at_ : Nat} {e : Int} (h : gop b at_ = .error e) : goE b at_ = e ∧ goV b at_ = opZ ∧ goX b at_ = 0 := by simp only [goE, goV, goX, h]; exact ⟨trivial, trivial, trivial⟩
theorem go_ok {b : List UInt8} {at_ a : Nat} {x : OpD} (h : gop b at_ = .ok (x, a)) : goE b at_ = 0 ∧ goV b at_ = x ∧ goX b at_ = (a : Int) := by simp only [goE, goV, goX, h]; exact ⟨trivial, trivial, trivial⟩
end Go.Pl
namespace Go.Proofs.YtfanmpbapabboaaGreatDoor
open Go.RowKit Go.Fw Go.Pl
theorem build_op2 (k : Int) (b : Bool) (w : World) : (Instr.build 89 [(0, Value.int .i64 k), (1, Value.bool b)].toArray).run Tryz.prog w = .ok (opV ⟨k, b, RefD.zero, 0⟩) w := run_build w _ _ _ kr_
theorem build_apiOp (w : World) : (Instr.build 89 #[]).run Tryz.prog w = .ok (opV opZ) w := by kernel_rfl
abbrev TD : TypeId := 38
abbrev TO : TypeId := 89
set_option maxRecDepth 20000 in
theorem rDig_any (s : ByteArray) (at_ : Nat) (w : World) (hsm : s.size ≤ 9223372036854775000) (hat : at_ ≤ s.size) : Calls Tryz.prog 54 #[.string s, .int .i64 (at_ : Int)] w (Ret fun v w' => v = .tuple #[digV (gdD s.toList at_), .bool (gdB s.toList at_)] ∧ Ext w w') := by
 have hsl := toList_length s
 obtain ⟨id, hid, hzd, _⟩ := info_apiDigest
 refine calls_of_CWct 26 4 32 [5] [(0, .string s), (1, .int .i64 (at_ : Int))] Tryz.func54 rfl rfl rfl Tryz.underlying38 rfl kr_ (by simp) args2 ?_
 have hE : Ext w w := Chg.refl
 refine CW.sr fun K1 hK1 => ?_
 refine WL.alloc (hid) (hzd) rfl de_ fun g4 w1 hx1 hg4 hB4 => ?_
 have hlt4 := hB4.lt; have hz1 := hx1.size
 have hM4 := hB4.mem; have hz1 := hx1.size; have hE := hE.thenExt hx1
 refine WL.a rfl ?_
 refine WL.nil (hK1 _ _ ?_); try clear hK1
 refine CW.sr fun K2 hK2 => ?_
 refine WL.alloc (hid) (hzd) rfl de_ fun g6 w2 hx2 hg6 hB6 => ?_
 have hlt6 := hB6.lt; have hz2 := hx2.size
 have hM6 := hB6.mem; have hz2 := hx2.size; have hE := hE.thenExt hx2; have hB4 := hB4.ext hx2
 refine WL.nil (hK2 _ _ ?_); try clear hK2
 refine CW.seq fun K3 hK3 => ?_
 refine CW.sr fun K4 hK4 => ?_
 refine WL.m rfl ?_
 refine WL.v (Y.len_string Tryz.underlying9 rfl) ?_
 refine WL.m rfl ?_
 refine WL.v (Y.sub rfl rfl o2_) ?_
 refine WL.v (Y.lss rfl rfl) ?_
 refine WL.nil (hK4 _ _ ?_); try clear hK4
 (first | refine cd_ rfl ?_ ?_ | refine ce_ rfl ?_ ?_ | refine cn_ rfl ?_ ?_ | refine cb_ rfl ?_ ?_) <;> intro ht5
 ·
  -- then
  refine CW.sr fun K6 hK6 => ?_
  refine WL.v (Y.load Tryz.underlying38 rfl hB6.mem (sz_apiDigest _) rfl) ?_
  refine WL.store (g := g4) (pre := []) (old := digC Dig.zero) (post := []) (new := digC Dig.zero) rfl rfl rfl rfl (sz_apiDigest _) (by simpa using hB4) ln_ (one_digC) (fun w3 hc3 hB3_ => ?_)
  have hz3 := hc3.size; have hE := hE.step hc3 (fun k h => by omega); have hB6 := hB6.chg hc3 no_
  have hB4 : Blk w3 g4 TD (digC Dig.zero) := by simpa using hB3_
  refine WL.a rfl ?_
  refine WL.nil (hK6 _ _ ?_); try clear hK6
  refine CW.ret ?_
  exact ⟨_, _, _, rfl, hB4.mem, digC_length _, rfl, by rw [gdD, dif_neg om_, gdB, decide_eq_false om_], hE⟩
 refine CW.skip ?_
 refine hK3 _ _ ?_; try clear hK3
 refine CW.seq fun K7 hK7 => ?_
 refine CW.sr fun K8 hK8 => ?_
 refine WL.a rfl ?_
 refine WL.nil (hK8 _ _ ?_); try clear hK8
 refine CW.block ?_
 refine CW.loop (X := Nat) (fun x => [(0, .string s), (1, .int .i64 (at_ : Int)), (4, .pointer (some ⟨g4, 0, none⟩)), (6, .pointer (some ⟨g6, 0, none⟩)), (7, .int .i64 (x : Int))]) (fun x w0 => x ≤ 32 ∧ Ext w w0 ∧ Blk w0 g4 TD (digC Dig.zero) ∧ Blk w0 g6 TD (bytesC ((s.toList.drop at_).take x ++ List.replicate (32 - x) 0))) (fun x => 32 - x) 0 Fr.ok ⟨Nat.zero_le _, hE, hB4, (by simpa [digC, Dig.zero] using hB6)⟩ ?_
 intro x w4 hl4
 obtain ⟨hi, hE, hB4, hB6⟩ := hl4
 refine CW.seq fun K9 hK9 => ?_
 refine CW.sr fun K10 hK10 => ?_
 refine WL.m rfl ?_
 refine WL.v (Y.lss rfl rfl) ?_
 refine WL.nil (hK10 _ _ ?_); try clear hK10
 (first | refine cd_ rfl ?_ ?_ | refine ce_ rfl ?_ ?_ | refine cn_ rfl ?_ ?_ | refine cb_ rfl ?_ ?_) <;> intro ht11
 ·
  -- then
  refine CW.skip ?_
  refine hK9 _ _ ?_; try clear hK9
  refine CW.seq fun K12 hK12 => ?_
  refine CW.block ?_
  refine CW.region ?_
  refine WL.m rfl ?_
  refine WL.m rfl ?_
  refine WL.m rfl ?_
  refine WL.m rfl ?_
  refine WL.v (Y.add rfl rfl o2_) ?_
  refine WL.v (Y.index_string (i := at_ + x) Tryz.underlying9 rfl rfl om_) ?_
  refine WL.v (Y.indexAddrAN Tryz.underlying38 rfl rfl sz0_uint8 om_) ?_
  refine WL.store (g := g6) (pre := bytesC ((s.toList.drop at_).take x)) (old := [bc 0]) (post := bytesC (List.replicate (31 - x) 0)) (new := [bc s[at_ + x]]) rfl (by rw [add_zero']; simp [bytesC_length]; omega) rfl rfl kr_ (by rw [← dig_fill om_]; exact hB6) ln_ (one1 rfl) (fun w5 hc5 hB5_ => ?_)
  have hz5 := hc5.size; have hE := hE.step hc5 (fun k h => by omega); have hB4 := hB4.chg hc5 no_
  rw [dig_more (get_toList om_)] at hB5_
  have hB6 := hB5_
  refine WL.nil (hK12 _ _ ?_); try clear hK12
  refine CW.region ?_
  refine WL.m rfl ?_
  refine WL.v (Y.add rfl rfl o2_) ?_
  refine WL.a rfl ?_
  refine WL.nil ?_
  refine ⟨x + 1, by omega, Fr.ok, by omega, hE, hB4, hB6⟩
 refine CW.exit ?_
 refine hK7 _ _ ?_; try clear hK7
 refine CW.sr fun K13 hK13 => ?_
 obtain ⟨d, hd, hgd⟩ : ∃ d : Dig, d.1 = (s.toList.drop at_).take 32 ∧ gdD s.toList at_ = d := ⟨gdD s.toList at_, by rw [gdD, dif_pos om_], rfl⟩
 have hx32 : x = 32 := by omega
 have hB6 : Blk w4 g6 TD (digC d) := by rw [hx32] at hB6; simpa [digC, hd] using hB6
 refine WL.v (Y.load Tryz.underlying38 rfl hB6.mem (sz_apiDigest _) rfl) ?_
 refine WL.store (g := g4) (pre := []) (old := digC Dig.zero) (post := []) (new := digC d) rfl rfl rfl rfl (sz_apiDigest _) (by simpa using hB4) ln_ (one_digC) (fun w6 hc6 hB6_ => ?_)
 have hz6 := hc6.size; have hE := hE.step hc6 (fun k h => by omega); have hB6 := hB6.chg hc6 no_
 have hB4 : Blk w6 g4 TD (digC d) := by simpa using hB6_
 refine WL.a rfl ?_
 refine WL.nil (hK13 _ _ ?_); try clear hK13
 refine CW.ret ?_
 exact ⟨_, _, _, rfl, hB4.mem, digC_length _, rfl, by rw [hgd, gdB, decide_eq_true om_], hE⟩
set_option maxRecDepth 20000 in
theorem rOp_any (s : ByteArray) (at_ : Nat) (w : World) (hsm : s.size ≤ 9223372036854770000) (hat : at_ ≤ s.size) : Calls Tryz.prog 31 #[.string s, .int .i64 (at_ : Int)] w (Ret fun v w' => v = .tuple #[opV (goV s.toList at_), .int .i64 (goX s.toList at_), .int .i64 (goE s.toList at_)] ∧ Ext w w') := by
 have hsl := toList_length s
 obtain ⟨io, hio, hzo, _⟩ := info_apiOp
 refine calls_of_CWct 97 4 37 [5, 6] [(0, .string s), (1, .int .i64 (at_ : Int))] Tryz.func31 rfl rfl rfl Tryz.underlying89 rfl kr_ (by simp) args2 ?_
 have hE : Ext w w := Chg.refl
 refine CW.sr fun K1 hK1 => ?_
 refine WL.alloc (hio) (hzo) rfl de_ fun g4 w1 hx1 hg4 hB4 => ?_
 have hlt4 := hB4.lt; have hz1 := hx1.size
 have hM4 := hB4.mem; have hz1 := hx1.size; have hE := hE.thenExt hx1
 refine WL.a rfl ?_
 refine WL.a rfl ?_
 refine WL.nil (hK1 _ _ ?_); try clear hK1
 refine CW.sr fun K2 hK2 => ?_
 refine WL.m rfl ?_
 refine WL.m rfl ?_
 refine WL.call Tryz.func30 rfl rfl rfl ((rGetNum_t s at_ _ om_ hat)) (by simp) ?_; rintro v w2 ⟨rfl, hx2⟩; have hz2 := hx2.size; have hE := hE.thenExt hx2; have hB4 := hB4.ext hx2
 refine WL.m rfl ?_
 refine WL.v (Y.extract rfl rfl) ?_
 refine WL.v (Y.extract rfl rfl) ?_
 refine WL.v (Y.extract rfl rfl) ?_
 refine WL.a rfl ?_
 refine WL.a rfl ?_
 refine WL.a rfl ?_
 refine WL.nil (hK2 _ _ ?_); try clear hK2
 refine CW.seq fun K3 hK3 => ?_
 refine CW.sr fun K4 hK4 => ?_
 refine WL.m rfl ?_
 refine WL.v (Y.neq rfl rfl) ?_
 refine WL.nil (hK4 _ _ ?_); try clear hK4
 (first | refine cd_ rfl ?_ ?_ | refine ce_ rfl ?_ ?_ | refine cn_ rfl ?_ ?_ | refine cb_ rfl ?_ ?_) <;> intro ht5
 ·
  -- then
  refine CW.sr fun K6 hK6 => ?_
  refine WL.v (Y.build0 (build_apiOp _)) ?_
  refine WL.m rfl ?_
  refine WL.store (g := g4) (pre := []) (old := opC opZ) (post := []) (new := opC opZ) rfl rfl rfl rfl (sz_apiOp _) (by simpa using hB4) ln_ (one_opC) (fun w3 hc3 hB3_ => ?_)
  have hz3 := hc3.size; have hE := hE.step hc3 (fun k h => by omega)
  have hB4 : Blk w3 g4 TO (opC opZ) := by simpa using hB3_
  refine WL.a rfl ?_
  refine WL.a rfl ?_
  refine WL.nil (hK6 _ _ ?_); try clear hK6
  refine CW.ret ?_
  have he := go_err (b := s.toList) (at_ := at_) (e := gE s.toList at_) (by simp only [gop, (gE_ne (by assumption)).1])
  exact ⟨_, _, _, rfl, hB4.mem, opC_length _, rfl, by (rw [he.1, he.2.1, he.2.2]; try rfl), hE⟩
 refine CW.skip ?_
 refine hK3 _ _ ?_; try clear hK3
 refine CW.seq fun K7 hK7 => ?_
 refine CW.seq fun K8 hK8 => ?_
 obtain ⟨n, a1, hg, hN, hX⟩ := gE_zero (bs := s.toList) (at_ := at_) om_
 rw [hN, hX]
 have hlen := gnum_len hg om_
 refine CW.region ?_
 refine WL.m rfl ?_
 refine WL.v (Y.gtr rfl rfl) ?_
 refine WL.nil (hK8 _ _ ?_); try clear hK8
 (first | refine cd_ rfl ?_ ?_ | refine ce_ rfl ?_ ?_ | refine cn_ rfl ?_ ?_ | refine cb_ rfl ?_ ?_) <;> intro ht9
 ·
  -- then
  refine CW.sr fun K10 hK10 => ?_
  refine WL.v (Y.build0 (build_apiOp _)) ?_
  refine WL.store (g := g4) (pre := []) (old := opC opZ) (post := []) (new := opC opZ) rfl rfl rfl rfl (sz_apiOp _) (by simpa using hB4) ln_ (one_opC) (fun w4 hc4 hB4_ => ?_)
  have hz4 := hc4.size; have hE := hE.step hc4 (fun k h => by omega)
  have hB4 : Blk w4 g4 TO (opC opZ) := by simpa using hB4_
  refine WL.a rfl ?_
  refine WL.a rfl ?_
  refine WL.nil (hK10 _ _ ?_); try clear hK10
  refine CW.ret ?_
  have he := go_err (b := s.toList) (at_ := at_) (e := 7) (by simp only [gop, hg]; rw [if_pos om_])
  exact ⟨_, _, _, rfl, hB4.mem, opC_length _, rfl, by (rw [he.1, he.2.1, he.2.2]; try rfl), hE⟩
 refine CW.skip ?_
 refine hK7 _ _ ?_; try clear hK7
 refine CW.sr fun K11 hK11 => ?_
 refine WL.m rfl ?_
 refine WL.v (Y.remN (q := 2) rfl rfl de_) ?_
 refine WL.v (Y.add rfl rfl o2_) ?_
 refine WL.m rfl ?_
 refine WL.v (Y.quoN (q := 2) rfl rfl de_) ?_
 refine WL.v (Y.remN (q := 2) rfl rfl de_) ?_
 refine WL.v (Y.eql rfl rfl) ?_
 refine WL.v (Y.build rfl (build_op2 _ _ _)) ?_
 refine as_apiOp rfl (by simp) de_ fun g10 w5 hx5 hg10 hB10 => ?_
 have hlt10 := hB10.lt; have hz5 := hx5.size
 have hM10 := hB10.mem; have hz5 := hx5.size; have hE := hE.thenExt hx5; have hB4 := hB4.ext hx5
 refine WL.nil (hK11 _ _ ?_); try clear hK11
 have hB10 : Blk w5 g10 TO (opC ⟨(if n % 2 = 0 then 1 else 2), (decide (n / 2 % 2 = 1)), ⟨false, Dig.zero, 0⟩, 0⟩) := by
  have e1 : (1 : Int) + ((n % 2 : Nat) : Int) = (if n % 2 = 0 then 1 else 2) := by split <;> omega
  have e2 : decide (((n / 2 % 2 : Nat) : Int) = 1) = decide (n / 2 % 2 = 1) := decide_eq_decide.2 om_
  rw [e1, e2] at hB10
  exact hB10
 refine CW.seq_to (X := Dig × Nat) (fun x => [(0, .string s), (4, .pointer (some ⟨g4, 0, none⟩)), (7, .int .i64 (n : Int)), (8, .int .i64 (x.2 : Int)), (10, .pointer (some ⟨g10, 0, none⟩))]) (fun x w0 => Ext w w0 ∧ Blk w0 g4 TO (opC opZ) ∧ Blk w0 g10 TO (opC ⟨if n % 2 = 0 then 1 else 2, decide (n / 2 % 2 = 1), ⟨false, x.1, 0⟩, 0⟩) ∧ gopD s.toList n a1 = .ok (x.1, x.2) ∧ x.2 ≤ s.size) ?_ ?_
 ·
  skip
  refine CW.sr fun K13 hK13 => ?_
  refine WL.m rfl ?_
  refine WL.v (Y.quoN (q := 4) rfl rfl de_) ?_
  refine WL.v (Y.eql rfl rfl) ?_
  refine WL.nil (hK13 _ _ ?_); try clear hK13
  (first | refine cd_ rfl ?_ ?_ | refine ce_ rfl ?_ ?_ | refine cn_ rfl ?_ ?_ | refine cb_ rfl ?_ ?_) <;> intro ht14
  ·
   -- then
   refine CW.sr fun K15 hK15 => ?_
   refine WL.m rfl ?_
   refine WL.m rfl ?_
   refine WL.call Tryz.func54 rfl rfl rfl ((rDig_any s a1 _ om_ om_)) (by simp) ?_; rintro v w6 ⟨rfl, hx6⟩; have hz6 := hx6.size; have hE := hE.thenExt hx6; have hB4 := hB4.ext hx6; have hB10 := hB10.ext hx6
   refine WL.m rfl ?_
   refine WL.v (Y.extract rfl rfl) ?_
   refine WL.v (Y.extract rfl rfl) ?_
   refine as_apiDigest rfl (by simp) de_ fun g11 w7 hx7 hg11 hB11 => ?_
   have hlt11 := hB11.lt; have hz7 := hx7.size
   have hM11 := hB11.mem; have hz7 := hx7.size; have hE := hE.thenExt hx7; have hB4 := hB4.ext hx7; have hB10 := hB10.ext hx7
   refine WL.a rfl ?_
   refine WL.nil (hK15 _ _ ?_); try clear hK15
   refine CW.seq fun K16 hK16 => ?_
   refine CW.sr fun K17 hK17 => ?_
   refine WL.m rfl ?_
   refine WL.v (Y.not rfl) ?_
   refine WL.nil (hK17 _ _ ?_); try clear hK17
   (first | refine cd_ rfl ?_ ?_ | refine ce_ rfl ?_ ?_ | refine cn_ rfl ?_ ?_ | refine cb_ rfl ?_ ?_) <;> intro ht18
   ·
    -- then
    refine CW.sr fun K19 hK19 => ?_
    refine WL.v (Y.build0 (build_apiOp _)) ?_
    refine WL.store (g := g4) (pre := []) (old := opC opZ) (post := []) (new := opC opZ) rfl rfl rfl rfl (sz_apiOp _) (by simpa using hB4) ln_ (one_opC) (fun w8 hc8 hB8_ => ?_)
    have hz8 := hc8.size; have hE := hE.step hc8 (fun k h => by omega); have hB10 := hB10.chg hc8 no_; have hB11 := hB11.chg hc8 no_
    have hB4 : Blk w8 g4 TO (opC opZ) := by simpa using hB8_
    refine WL.a rfl ?_
    refine WL.a rfl ?_
    refine WL.nil (hK19 _ _ ?_); try clear hK19
    refine CW.ret ?_
    have he := go_err (b := s.toList) (at_ := at_) (e := 8) (by simp only [gop, hg]; rw [if_neg om_]; simp only [gopD]; rw [if_pos om_, gdB_no (by first | assumption | (simp only [gdB, decide_eq_false_iff_not]; omega))])
    exact ⟨_, _, _, rfl, hB4.mem, opC_length _, rfl, by (rw [he.1, he.2.1, he.2.2]; try rfl), hE⟩
   refine CW.skip ?_
   refine hK16 _ _ ?_; try clear hK16
   refine CW.sr fun K20 hK20 => ?_
   refine WL.v (Y.load Tryz.underlying38 rfl hB11.mem (sz_apiDigest _) rfl) ?_
   refine WL.v (Y.fieldAddr fo_apiOp2 rfl) ?_
   refine WL.v (Y.fieldAddr fo_apiRef1 rfl) ?_
   refine WL.store (g := g10) (pre := [.int .i64 (if n % 2 = 0 then 1 else 2), .bool (decide (n / 2 % 2 = 1)), .bool false]) (old := digC Dig.zero) (post := [.int .i64 0, bc 0]) (new := digC (gdD s.toList a1)) rfl (by rw [add_add, add_zero']; rfl) rfl rfl (sz_apiDigest _) (by rw [← opCs_c]; exact hB10) ln_ (one_digC) (fun w9 hc9 hB9_ => ?_)
   have hz9 := hc9.size; have hE := hE.step hc9 (fun k h => by omega); have hB4 := hB4.chg hc9 no_; have hB11 := hB11.chg hc9 no_
   rw [← opCs_c] at hB9_
   have hB10 := hB9_
   refine WL.nil (hK20 _ _ ?_); try clear hK20
   refine CW.region ?_
   refine WL.m rfl ?_
   refine WL.v (Y.add rfl rfl o2_) ?_
   refine WL.a rfl ?_
   refine WL.nil ?_
   have hy := gdB_yes (b := s.toList) (at_ := a1) (by first | assumption | (simp only [gdB, decide_eq_true_eq]; omega))
   exact ⟨(gdD s.toList a1, a1 + 32), Fr.ok, hE, hB4, hB10, by simp only [gopD]; rw [if_pos om_, hy.1], by show a1 + 32 ≤ _; omega⟩
  refine CW.skip ?_
  exact ⟨(Dig.zero, a1), Fr.ok, hE, hB4, hB10, by simp only [gopD]; rw [if_neg om_], by show a1 ≤ _; omega⟩
 rintro u w10 hj10
 obtain ⟨d, a2⟩ := u
 dsimp only at hj10 ⊢
 obtain ⟨hE, hB4, hB10, hgd, ha2⟩ := hj10
 have e3 : decide (((n / 4 : Nat) : Int) = 1) = decide (n / 4 = 1) := decide_eq_decide.2 om_
 refine CW.seq_to (X := Nat × Nat) (fun x => [(0, .string s), (4, .pointer (some ⟨g4, 0, none⟩)), (8, .int .i64 (x.2 : Int)), (10, .pointer (some ⟨g10, 0, none⟩))]) (fun x w0 => Ext w w0 ∧ Blk w0 g4 TO (opC opZ) ∧ Blk w0 g10 TO (opC ⟨if n % 2 = 0 then 1 else 2, decide (n / 2 % 2 = 1), ⟨decide (n / 4 = 1), d, (x.1 : Int)⟩, 0⟩) ∧ gopN s.toList n a2 = .ok (x.1, x.2) ∧ x.2 ≤ s.size) ?_ ?_
 ·
  skip
  refine CW.sr fun K22 hK22 => ?_
  refine WL.m rfl ?_
  refine WL.v (Y.quoN (q := 4) rfl rfl de_) ?_
  refine WL.v (Y.gtr rfl rfl) ?_
  refine WL.nil (hK22 _ _ ?_); try clear hK22
  (first | refine cd_ rfl ?_ ?_ | refine ce_ rfl ?_ ?_ | refine cn_ rfl ?_ ?_ | refine cb_ rfl ?_ ?_) <;> intro ht23
  ·
   -- then
   refine CW.sr fun K24 hK24 => ?_
   refine WL.m rfl ?_
   refine WL.m rfl ?_
   refine WL.call Tryz.func30 rfl rfl rfl ((rGetNum_t s a2 _ om_ ha2)) (by simp) ?_; rintro v w11 ⟨rfl, hx11⟩; have hz11 := hx11.size; have hE := hE.thenExt hx11; have hB4 := hB4.ext hx11; have hB10 := hB10.ext hx11
   refine WL.m rfl ?_
   refine WL.v (Y.extract rfl rfl) ?_
   refine WL.v (Y.extract rfl rfl) ?_
   refine WL.v (Y.extract rfl rfl) ?_
   refine WL.a rfl ?_
   refine WL.a rfl ?_
   refine WL.a rfl ?_
   refine WL.nil (hK24 _ _ ?_); try clear hK24
   refine CW.seq fun K25 hK25 => ?_
   refine CW.sr fun K26 hK26 => ?_
   refine WL.m rfl ?_
   refine WL.v (Y.neq rfl rfl) ?_
   refine WL.nil (hK26 _ _ ?_); try clear hK26
   (first | refine cd_ rfl ?_ ?_ | refine ce_ rfl ?_ ?_ | refine cn_ rfl ?_ ?_ | refine cb_ rfl ?_ ?_) <;> intro ht27
   ·
    -- then
    refine CW.sr fun K28 hK28 => ?_
    refine WL.v (Y.build0 (build_apiOp _)) ?_
    refine WL.m rfl ?_
    refine WL.store (g := g4) (pre := []) (old := opC opZ) (post := []) (new := opC opZ) rfl rfl rfl rfl (sz_apiOp _) (by simpa using hB4) ln_ (one_opC) (fun w12 hc12 hB12_ => ?_)
    have hz12 := hc12.size; have hE := hE.step hc12 (fun k h => by omega); have hB10 := hB10.chg hc12 no_
    have hB4 : Blk w12 g4 TO (opC opZ) := by simpa using hB12_
    refine WL.a rfl ?_
    refine WL.a rfl ?_
    refine WL.nil (hK28 _ _ ?_); try clear hK28
    refine CW.ret ?_
    have he := go_err (b := s.toList) (at_ := at_) (e := gE s.toList a2) (by simp only [gop, hg]; rw [if_neg om_, hgd]; simp only [gopN]; rw [if_pos om_, (gE_ne (by assumption)).1])
    exact ⟨_, _, _, rfl, hB4.mem, opC_length _, rfl, by (rw [he.1, he.2.1, he.2.2]; try rfl), hE⟩
   refine CW.skip ?_
   refine hK25 _ _ ?_; try clear hK25
   refine CW.seq fun K29 hK29 => ?_
   refine CW.seq fun K30 hK30 => ?_
   obtain ⟨k, a3, hg2, hN2, hX2⟩ := gE_zero (bs := s.toList) (at_ := a2) om_
   rw [hN2, hX2]
   have hlen2 := gnum_len hg2 om_
   refine CW.region ?_
   refine WL.m rfl ?_
   refine WL.v (Y.eql rfl rfl) ?_
   refine WL.nil (hK30 _ _ ?_); try clear hK30
   (first | refine cd_ rfl ?_ ?_ | refine ce_ rfl ?_ ?_ | refine cn_ rfl ?_ ?_ | refine cb_ rfl ?_ ?_) <;> intro ht31
   ·
    -- then
    refine CW.sr fun K32 hK32 => ?_
    refine WL.v (Y.build0 (build_apiOp _)) ?_
    refine WL.store (g := g4) (pre := []) (old := opC opZ) (post := []) (new := opC opZ) rfl rfl rfl rfl (sz_apiOp _) (by simpa using hB4) ln_ (one_opC) (fun w13 hc13 hB13_ => ?_)
    have hz13 := hc13.size; have hE := hE.step hc13 (fun k h => by omega); have hB10 := hB10.chg hc13 no_
    have hB4 : Blk w13 g4 TO (opC opZ) := by simpa using hB13_
    refine WL.a rfl ?_
    refine WL.a rfl ?_
    refine WL.nil (hK32 _ _ ?_); try clear hK32
    refine CW.ret ?_
    have he := go_err (b := s.toList) (at_ := at_) (e := 7) (by simp only [gop, hg]; rw [if_neg om_, hgd]; simp only [gopN]; rw [if_pos om_, hg2]; simp only []; rw [if_pos om_])
    exact ⟨_, _, _, rfl, hB4.mem, opC_length _, rfl, by (rw [he.1, he.2.1, he.2.2]; try rfl), hE⟩
   refine CW.skip ?_
   refine hK29 _ _ ?_; try clear hK29
   refine CW.sr fun K33 hK33 => ?_
   refine WL.m rfl ?_
   refine WL.v (Y.quoN (q := 4) rfl rfl de_) ?_
   refine WL.v (Y.eql rfl rfl) ?_
   refine WL.v (Y.fieldAddr fo_apiOp2 rfl) ?_
   refine WL.v (Y.fieldAddr fo_apiRef0 rfl) ?_
   refine WL.store (g := g10) (pre := [.int .i64 (if n % 2 = 0 then 1 else 2), .bool (decide (n / 2 % 2 = 1))]) (old := [.bool false]) (post := digC d ++ [.int .i64 0, bc 0]) (new := [.bool (decide (((n / 4 : Nat) : Int) = 1))]) rfl (by rw [add_add, add_zero']; rfl) rfl rfl kr_ (by rw [← opCs_own]; exact hB10) ln_ (one1 rfl) (fun w14 hc14 hB14_ => ?_)
   have hz14 := hc14.size; have hE := hE.step hc14 (fun k h => by omega); have hB4 := hB4.chg hc14 no_
   rw [← opCs_own, e3] at hB14_
   have hB10 := hB14_
   refine WL.nil (hK33 _ _ ?_); try clear hK33
   refine CW.sr fun K34 hK34 => ?_
   refine WL.m rfl ?_
   refine WL.v (Y.fieldAddr fo_apiOp2 rfl) ?_
   refine WL.v (Y.fieldAddr fo_apiRef2 rfl) ?_
   refine WL.store (g := g10) (pre := (.int .i64 (if n % 2 = 0 then 1 else 2) :: .bool (decide (n / 2 % 2 = 1)) :: .bool (decide (n / 4 = 1)) :: digC d)) (old := [.int .i64 0]) (post := [bc 0]) (new := [.int .i64 (k : Int)]) rfl (by rw [add_add, add_zero']; simp [digC_length]) rfl rfl kr_ (by rw [← opCs_n]; exact hB10) ln_ (one1 rfl) (fun w15 hc15 hB15_ => ?_)
   have hz15 := hc15.size; have hE := hE.step hc15 (fun k h => by omega); have hB4 := hB4.chg hc15 no_
   rw [← opCs_n] at hB15_
   have hB10 := hB15_
   refine WL.nil (hK34 _ _ ?_); try clear hK34
   refine CW.region ?_
   refine WL.m rfl ?_
   refine WL.a rfl ?_
   refine WL.nil ?_
   exact ⟨(k, a3), Fr.ok, hE, hB4, hB10, by simp only [gopN]; rw [if_pos om_, hg2]; simp only []; rw [if_neg om_], by show a3 ≤ _; omega⟩
  refine CW.skip ?_
  exact ⟨(0, a2), Fr.ok, hE, hB4, by rw [decide_eq_false (p := n / 4 = 1) om_]; exact hB10, by simp only [gopN]; rw [if_neg om_], by show a2 ≤ _; omega⟩
 rintro u w16 hj16
 obtain ⟨k, a3⟩ := u
 dsimp only at hj16 ⊢
 obtain ⟨hE, hB4, hB10, hgn, ha3⟩ := hj16
 refine CW.seq_to (X := UInt8 × Nat) (fun x => [(4, .pointer (some ⟨g4, 0, none⟩)), (8, .int .i64 (x.2 : Int)), (10, .pointer (some ⟨g10, 0, none⟩))]) (fun x w0 => Ext w w0 ∧ Blk w0 g4 TO (opC opZ) ∧ Blk w0 g10 TO (opC ⟨if n % 2 = 0 then 1 else 2, decide (n / 2 % 2 = 1), ⟨decide (n / 4 = 1), d, (k : Int)⟩, x.1⟩) ∧ gopB s.toList n a3 = .ok (x.1, x.2) ∧ x.2 ≤ s.size) ?_ ?_
 ·
  skip
  refine CW.sr fun K36 hK36 => ?_
  refine WL.v (Y.fieldAddr fo_apiOp0 rfl) ?_
  refine WL.v (Y.load1 Tryz.underlying3 rfl hB10.mem.op0 rfl) ?_
  refine WL.v (Y.eql rfl rfl) ?_
  refine WL.nil (hK36 _ _ ?_); try clear hK36
  (first | refine cd_ rfl ?_ ?_ | refine ce_ rfl ?_ ?_ | refine cn_ rfl ?_ ?_ | refine cb_ rfl ?_ ?_) <;> intro ht37
  ·
   -- then
   refine CW.seq fun K38 hK38 => ?_
   refine CW.seq fun K39 hK39 => ?_
   have h2 : n % 2 = 0 := by false_or_by_contra; simp_all
   refine CW.region ?_
   refine WL.m rfl ?_
   refine WL.m rfl ?_
   refine WL.v (Y.len_string Tryz.underlying9 rfl) ?_
   refine WL.v (Y.geq rfl rfl) ?_
   refine WL.nil (hK39 _ _ ?_); try clear hK39
   (first | refine cd_ rfl ?_ ?_ | refine ce_ rfl ?_ ?_ | refine cn_ rfl ?_ ?_ | refine cb_ rfl ?_ ?_) <;> intro ht40
   ·
    -- then
    refine CW.sr fun K41 hK41 => ?_
    refine WL.v (Y.build0 (build_apiOp _)) ?_
    refine WL.store (g := g4) (pre := []) (old := opC opZ) (post := []) (new := opC opZ) rfl rfl rfl rfl (sz_apiOp _) (by simpa using hB4) ln_ (one_opC) (fun w17 hc17 hB17_ => ?_)
    have hz17 := hc17.size; have hE := hE.step hc17 (fun k h => by omega); have hB10 := hB10.chg hc17 no_
    have hB4 : Blk w17 g4 TO (opC opZ) := by simpa using hB17_
    refine WL.a rfl ?_
    refine WL.a rfl ?_
    refine WL.nil (hK41 _ _ ?_); try clear hK41
    refine CW.ret ?_
    have he := go_err (b := s.toList) (at_ := at_) (e := 8) (by simp only [gop, hg]; rw [if_neg om_, hgd]; simp only []; rw [hgn]; simp only [gopB]; rw [if_pos h2, List.getElem?_eq_none om_])
    exact ⟨_, _, _, rfl, hB4.mem, opC_length _, rfl, by (rw [he.1, he.2.1, he.2.2]; try rfl), hE⟩
   refine CW.skip ?_
   refine hK38 _ _ ?_; try clear hK38
   refine CW.sr fun K42 hK42 => ?_
   refine WL.m rfl ?_
   refine WL.m rfl ?_
   refine WL.v (Y.index_string (i := a3) Tryz.underlying9 rfl rfl om_) ?_
   refine WL.v (Y.fieldAddr fo_apiOp3 rfl) ?_
   refine WL.store (g := g10) (pre := (.int .i64 (if n % 2 = 0 then 1 else 2) :: .bool (decide (n / 2 % 2 = 1)) :: .bool (decide (n / 4 = 1)) :: (digC d ++ [.int .i64 (k : Int)]))) (old := [bc 0]) (post := []) (new := [bc s[a3]]) rfl (by rw [add_zero']; simp [digC_length]) rfl rfl kr_ (by rw [← opCs_b]; exact hB10) ln_ (one1 rfl) (fun w18 hc18 hB18_ => ?_)
   have hz18 := hc18.size; have hE := hE.step hc18 (fun k h => by omega); have hB4 := hB4.chg hc18 no_
   rw [← opCs_b] at hB18_
   have hB10 := hB18_
   refine WL.nil (hK42 _ _ ?_); try clear hK42
   refine CW.region ?_
   refine WL.m rfl ?_
   refine WL.v (Y.add rfl rfl o2_) ?_
   refine WL.a rfl ?_
   refine WL.nil ?_
   exact ⟨(s[a3], a3 + 1), Fr.ok, hE, hB4, hB10, by simp only [gopB]; rw [if_pos h2, get_toList om_], by show a3 + 1 ≤ _; omega⟩
  refine CW.skip ?_
  have h2 : ¬ n % 2 = 0 := by intro h; simp_all
  exact ⟨(0, a3), Fr.ok, hE, hB4, hB10, by simp only [gopB]; rw [if_neg h2], by show a3 ≤ _; omega⟩
 rintro u w19 hj19
 obtain ⟨b, a4⟩ := u
 dsimp only at hj19 ⊢
 obtain ⟨hE, hB4, hB10, hgb, ha4⟩ := hj19
 refine CW.sr fun K43 hK43 => ?_
 refine WL.v (Y.load Tryz.underlying89 rfl hB10.mem (sz_apiOp _) rfl) ?_
 refine WL.m rfl ?_
 refine WL.store (g := g4) (pre := []) (old := opC opZ) (post := []) (new := opC ⟨(if n % 2 = 0 then 1 else 2), (decide (n / 2 % 2 = 1)), ⟨(decide (n / 4 = 1)), d, (k : Int)⟩, b⟩) rfl rfl rfl rfl (sz_apiOp _) (by simpa using hB4) ln_ (one_opC) (fun w20 hc20 hB20_ => ?_)
 have hz20 := hc20.size; have hE := hE.step hc20 (fun k h => by omega); have hB10 := hB10.chg hc20 no_
 have hB4 : Blk w20 g4 TO (opC ⟨(if n % 2 = 0 then 1 else 2), (decide (n / 2 % 2 = 1)), ⟨(decide (n / 4 = 1)), d, (k : Int)⟩, b⟩) := by simpa using hB20_
 refine WL.a rfl ?_
 refine WL.a rfl ?_
 refine WL.nil (hK43 _ _ ?_); try clear hK43
 refine CW.ret ?_
 have he := go_ok (b := s.toList) (at_ := at_) (x := ⟨(if n % 2 = 0 then 1 else 2), (decide (n / 2 % 2 = 1)), ⟨(decide (n / 4 = 1)), d, (k : Int)⟩, b⟩) (a := a4) (by simp only [gop, hg]; rw [if_neg om_, hgd]; simp only []; rw [hgn]; simp only []; rw [hgb])
 exact ⟨_, _, _, rfl, hB4.mem, opC_length _, rfl, by (rw [he.1, he.2.1, he.2.2]; try rfl), hE⟩
end Go.Proofs.YtfanmpbapabboaaGreatDoor
