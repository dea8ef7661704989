/- Parts of a proof: what its last text leans on. No condition. -/
import Derived.Test.YtfanmpbapabboaaGreatDoorK04
set_option linter.unusedSimpArgs false
set_option linter.unusedVariables false
/- What is wrong with an operation: commit.Right and the reference's Right, walked; the reference's Name. No condition. -/
namespace Go.Proofs.YtfanmpbapabboaaGreatDoor
open Go.RowKit Go.Fw Go.Pl
set_option maxRecDepth 20000 in
theorem rName_any (s : ByteArray) (w : World) (hs : s.size ≤ maxLen) : Calls Tryz.prog 56 #[.string s] w (Ret fun v w' => v = .bool (nameB s.toList) ∧ Ext w w') := by
 unfold maxLen at hs
 have hsl := toList_length s
 refine calls_of_CW 71 [2] [(0, .string s)] Tryz.func56 rfl rfl rfl (by simp) args1 ?_
 refine CW.sr fun K1 hK1 => ?_
 refine WL.a rfl ?_
 refine WL.nil (hK1 _ _ ?_); try clear hK1
 refine CW.seq fun K2 hK2 => ?_
 refine CW.sr fun K3 hK3 => ?_
 refine WL.a rfl ?_
 refine WL.nil (hK3 _ _ ?_); try clear hK3
 refine CW.block ?_
 refine CW.loop (X := Nat) (fun x => [(0, .string s), (3, .int .i64 (x : Int))]) (fun x w0 => x ≤ s.size ∧ (s.toList.take x).all letter = true ∧ Ext w w0) (fun x => s.size - x) 0 (Fr.le.cons rfl (Fr.le.cons rfl Fr.le.nil)) ⟨by omega, by simp, Chg.refl⟩ ?_
 intro x w1 hl1
 obtain ⟨hi, hall, hL1⟩ := hl1
 refine CW.seq fun K4 hK4 => ?_
 refine CW.sr fun K5 hK5 => ?_
 refine WL.m rfl ?_
 refine WL.m rfl ?_
 refine WL.v (Y.len_string Tryz.underlying9 rfl) ?_
 refine WL.v (Y.lss rfl rfl) ?_
 refine WL.nil (hK5 _ _ ?_); try clear hK5
 (first | refine cd_ rfl ?_ ?_ | refine ce_ rfl ?_ ?_ | refine cn_ rfl ?_ ?_ | refine cb_ rfl ?_ ?_) <;> intro ht6
 ·
  -- then
  refine CW.skip ?_
  refine hK4 _ _ ?_; try clear hK4
  refine CW.seq fun K7 hK7 => ?_
  refine CW.block ?_
  refine CW.sr fun K8 hK8 => ?_
  refine WL.m rfl ?_
  refine WL.m rfl ?_
  refine WL.v (Y.index_string Tryz.underlying9 rfl rfl om_) ?_
  refine WL.a rfl ?_
  refine WL.nil (hK8 _ _ ?_); try clear hK8
  refine CW.seq_test 5 ((65 ≤ (s[x].toNat : Int) ∧ (s[x].toNat : Int) ≤ 90) ∨ (97 ≤ (s[x].toNat : Int) ∧ (s[x].toNat : Int) ≤ 122) ∨ (48 ≤ (s[x].toNat : Int) ∧ (s[x].toNat : Int) ≤ 57)) ?_ ?_
  ·
   refine CW.region ?_
   refine WL.m rfl ?_
   refine WL.v (Y.geq rfl rfl) ?_
   refine WL.m rfl ?_
   (first | refine WL.casesD (d := 17) rfl ?_ ?_ | refine WL.casesND (d := 17) rfl ?_ ?_ | refine WL.cases (d := 17) rfl ?_ ?_) <;> intro hg17
   ·
    -- t17 = T
    refine WL.g rfl rfl (Y.move rfl) ?_
    refine WL.g rfl rfl (Y.leq rfl rfl) ?_
    refine WL.v (Y.pick rfl rfl) ?_
    refine WL.m rfl ?_
    (first | refine WL.casesD (d := 21) rfl ?_ ?_ | refine WL.casesND (d := 21) rfl ?_ ?_ | refine WL.cases (d := 21) rfl ?_ ?_) <;> intro hg21
    ·
     -- t21 = T
     refine WL.o rfl rfl ?_
     refine WL.o rfl rfl ?_
     refine WL.o rfl rfl ?_
     refine WL.goffU rfl rfl de_ ?_
     refine WL.goffU rfl rfl de_ ?_
     refine WL.o rfl rfl ?_
     refine WL.v (Y.pick rfl rfl) ?_
     refine WL.m rfl ?_
     refine WL.o rfl rfl ?_
     refine WL.o rfl rfl ?_
     refine WL.o rfl rfl ?_
     refine WL.goffU rfl rfl de_ ?_
     refine WL.goffU rfl rfl de_ ?_
     refine WL.o rfl rfl ?_
     refine WL.v (Y.pick rfl rfl) ?_
     refine WL.a rfl ?_
     refine WL.nil ⟨⟨_, rfl, ?_⟩, rfl, Fr.okp⟩
     exact tst_ok
    ·
     -- t21 = F
     refine WL.g rfl rfl (Y.move rfl) ?_
     refine WL.g rfl rfl (Y.geq rfl rfl) ?_
     refine WL.g rfl rfl (Y.move rfl) ?_
     (first | refine WL.casesD (d := 24) rfl ?_ ?_ | refine WL.casesND (d := 24) rfl ?_ ?_ | refine WL.cases (d := 24) rfl ?_ ?_) <;> intro hg24
     ·
      -- t24 = T
      refine WL.g rfl rfl (Y.move rfl) ?_
      refine WL.g rfl rfl (Y.leq rfl rfl) ?_
      refine WL.g rfl rfl (Y.pick rfl rfl) ?_
      refine WL.v (Y.pick rfl rfl) ?_
      refine WL.m rfl ?_
      (first | refine WL.casesD (d := 29) rfl ?_ ?_ | refine WL.casesND (d := 29) rfl ?_ ?_ | refine WL.cases (d := 29) rfl ?_ ?_) <;> intro hg29
      ·
       -- t29 = T
       refine WL.o rfl rfl ?_
       refine WL.o rfl rfl ?_
       refine WL.o rfl rfl ?_
       refine WL.goffU rfl rfl de_ ?_
       refine WL.goffU rfl rfl de_ ?_
       refine WL.o rfl rfl ?_
       refine WL.v (Y.pick rfl rfl) ?_
       refine WL.a rfl ?_
       refine WL.nil ⟨⟨_, rfl, ?_⟩, rfl, Fr.okp⟩
       exact tst_ok
      ·
       -- t29 = F
       refine WL.g rfl rfl (Y.move rfl) ?_
       refine WL.g rfl rfl (Y.geq rfl rfl) ?_
       refine WL.g rfl rfl (Y.move rfl) ?_
       (first | refine WL.casesD (d := 32) rfl ?_ ?_ | refine WL.casesND (d := 32) rfl ?_ ?_ | refine WL.cases (d := 32) rfl ?_ ?_) <;> intro hg32
       ·
        -- t32 = T
        refine WL.g rfl rfl (Y.move rfl) ?_
        refine WL.g rfl rfl (Y.leq rfl rfl) ?_
        refine WL.g rfl rfl (Y.pick rfl rfl) ?_
        refine WL.v (Y.pick rfl rfl) ?_
        refine WL.a rfl ?_
        refine WL.nil ⟨⟨_, rfl, ?_⟩, rfl, Fr.okp⟩
        exact tst_ok
       ·
        -- t32 = F
        refine WL.o rfl rfl ?_
        refine WL.o rfl rfl ?_
        refine WL.g rfl rfl (Y.pick rfl rfl) ?_
        refine WL.v (Y.pick rfl rfl) ?_
        refine WL.a rfl ?_
        refine WL.nil ⟨⟨_, rfl, ?_⟩, rfl, Fr.okp⟩
        exact tst_ok
     ·
      -- t24 = F
      refine WL.o rfl rfl ?_
      refine WL.o rfl rfl ?_
      refine WL.g rfl rfl (Y.pick rfl rfl) ?_
      refine WL.v (Y.pick rfl rfl) ?_
      refine WL.m rfl ?_
      refine WL.g rfl rfl (Y.move rfl) ?_
      refine WL.g rfl rfl (Y.geq rfl rfl) ?_
      refine WL.g rfl rfl (Y.move rfl) ?_
      (first | refine WL.casesD (d := 32) rfl ?_ ?_ | refine WL.casesND (d := 32) rfl ?_ ?_ | refine WL.cases (d := 32) rfl ?_ ?_) <;> intro hg32
      ·
       -- t32 = T
       refine WL.g rfl rfl (Y.move rfl) ?_
       refine WL.g rfl rfl (Y.leq rfl rfl) ?_
       refine WL.g rfl rfl (Y.pick rfl rfl) ?_
       refine WL.v (Y.pick rfl rfl) ?_
       refine WL.a rfl ?_
       refine WL.nil ⟨⟨_, rfl, ?_⟩, rfl, Fr.okp⟩
       exact tst_ok
      ·
       -- t32 = F
       refine WL.o rfl rfl ?_
       refine WL.o rfl rfl ?_
       refine WL.g rfl rfl (Y.pick rfl rfl) ?_
       refine WL.v (Y.pick rfl rfl) ?_
       refine WL.a rfl ?_
       refine WL.nil ⟨⟨_, rfl, ?_⟩, rfl, Fr.okp⟩
       exact tst_ok
   ·
    -- t17 = F
    refine WL.o rfl rfl ?_
    refine WL.o rfl rfl ?_
    refine WL.v (Y.pick rfl rfl) ?_
    refine WL.m rfl ?_
    refine WL.g rfl rfl (Y.move rfl) ?_
    refine WL.g rfl rfl (Y.geq rfl rfl) ?_
    refine WL.g rfl rfl (Y.move rfl) ?_
    (first | refine WL.casesD (d := 24) rfl ?_ ?_ | refine WL.casesND (d := 24) rfl ?_ ?_ | refine WL.cases (d := 24) rfl ?_ ?_) <;> intro hg24
    ·
     -- t24 = T
     refine WL.g rfl rfl (Y.move rfl) ?_
     refine WL.g rfl rfl (Y.leq rfl rfl) ?_
     refine WL.g rfl rfl (Y.pick rfl rfl) ?_
     refine WL.v (Y.pick rfl rfl) ?_
     refine WL.m rfl ?_
     (first | refine WL.casesD (d := 29) rfl ?_ ?_ | refine WL.casesND (d := 29) rfl ?_ ?_ | refine WL.cases (d := 29) rfl ?_ ?_) <;> intro hg29
     ·
      -- t29 = T
      refine WL.o rfl rfl ?_
      refine WL.o rfl rfl ?_
      refine WL.o rfl rfl ?_
      refine WL.goffU rfl rfl de_ ?_
      refine WL.goffU rfl rfl de_ ?_
      refine WL.o rfl rfl ?_
      refine WL.v (Y.pick rfl rfl) ?_
      refine WL.a rfl ?_
      refine WL.nil ⟨⟨_, rfl, ?_⟩, rfl, Fr.okp⟩
      exact tst_ok
     ·
      -- t29 = F
      refine WL.g rfl rfl (Y.move rfl) ?_
      refine WL.g rfl rfl (Y.geq rfl rfl) ?_
      refine WL.g rfl rfl (Y.move rfl) ?_
      (first | refine WL.casesD (d := 32) rfl ?_ ?_ | refine WL.casesND (d := 32) rfl ?_ ?_ | refine WL.cases (d := 32) rfl ?_ ?_) <;> intro hg32
      ·
       -- t32 = T
       refine WL.g rfl rfl (Y.move rfl) ?_
       refine WL.g rfl rfl (Y.leq rfl rfl) ?_
       refine WL.g rfl rfl (Y.pick rfl rfl) ?_
       refine WL.v (Y.pick rfl rfl) ?_
       refine WL.a rfl ?_
       refine WL.nil ⟨⟨_, rfl, ?_⟩, rfl, Fr.okp⟩
       exact tst_ok
      ·
       -- t32 = F
       refine WL.o rfl rfl ?_
       refine WL.o rfl rfl ?_
       refine WL.g rfl rfl (Y.pick rfl rfl) ?_
       refine WL.v (Y.pick rfl rfl) ?_
       refine WL.a rfl ?_
       refine WL.nil ⟨⟨_, rfl, ?_⟩, rfl, Fr.okp⟩
       exact tst_ok
    ·
     -- t24 = F
     refine WL.o rfl rfl ?_
     refine WL.o rfl rfl ?_
     refine WL.g rfl rfl (Y.pick rfl rfl) ?_
     refine WL.v (Y.pick rfl rfl) ?_
     refine WL.m rfl ?_
     refine WL.g rfl rfl (Y.move rfl) ?_
     refine WL.g rfl rfl (Y.geq rfl rfl) ?_
     refine WL.g rfl rfl (Y.move rfl) ?_
     (first | refine WL.casesD (d := 32) rfl ?_ ?_ | refine WL.casesND (d := 32) rfl ?_ ?_ | refine WL.cases (d := 32) rfl ?_ ?_) <;> intro hg32
     ·
      -- t32 = T
      refine WL.g rfl rfl (Y.move rfl) ?_
      refine WL.g rfl rfl (Y.leq rfl rfl) ?_
      refine WL.g rfl rfl (Y.pick rfl rfl) ?_
      refine WL.v (Y.pick rfl rfl) ?_
      refine WL.a rfl ?_
      refine WL.nil ⟨⟨_, rfl, ?_⟩, rfl, Fr.okp⟩
      exact tst_ok
     ·
      -- t32 = F
      refine WL.o rfl rfl ?_
      refine WL.o rfl rfl ?_
      refine WL.g rfl rfl (Y.pick rfl rfl) ?_
      refine WL.v (Y.pick rfl rfl) ?_
      refine WL.a rfl ?_
      refine WL.nil ⟨⟨_, rfl, ?_⟩, rfl, Fr.okp⟩
      exact tst_ok
  refine CW.seq_test 62 (¬ ((65 ≤ (s[x].toNat : Int) ∧ (s[x].toNat : Int) ≤ 90) ∨ (97 ≤ (s[x].toNat : Int) ∧ (s[x].toNat : Int) ≤ 122) ∨ (48 ≤ (s[x].toNat : Int) ∧ (s[x].toNat : Int) ≤ 57)) ∧ (s[x].toNat : Int) ≠ 45 ∧ (s[x].toNat : Int) ≠ 95 ∧ (s[x].toNat : Int) ≠ 46 ∧ (s[x].toNat : Int) ≠ 35 ∧ (s[x].toNat : Int) ≠ 64 ∧ (s[x].toNat : Int) ≠ 126) ?_ ?_
  ·
   refine CW.region ?_
   refine WL.m rfl ?_
   refine WL.v (Y.not rfl) ?_
   refine WL.m rfl ?_
   (first | refine WL.casesD (d := 39) rfl ?_ ?_ | refine WL.casesND (d := 39) rfl ?_ ?_ | refine WL.cases (d := 39) rfl ?_ ?_) <;> intro hg39
   ·
    -- t39 = T
    refine WL.g rfl rfl (Y.move rfl) ?_
    refine WL.g rfl rfl (Y.neq rfl rfl) ?_
    refine WL.v (Y.pick rfl rfl) ?_
    refine WL.m rfl ?_
    (first | refine WL.casesD (d := 43) rfl ?_ ?_ | refine WL.casesND (d := 43) rfl ?_ ?_ | refine WL.cases (d := 43) rfl ?_ ?_) <;> intro hg43
    ·
     -- t43 = T
     refine WL.g rfl rfl (Y.move rfl) ?_
     refine WL.g rfl rfl (Y.neq rfl rfl) ?_
     refine WL.v (Y.pick rfl rfl) ?_
     refine WL.m rfl ?_
     (first | refine WL.casesD (d := 47) rfl ?_ ?_ | refine WL.casesND (d := 47) rfl ?_ ?_ | refine WL.cases (d := 47) rfl ?_ ?_) <;> intro hg47
     ·
      -- t47 = T
      refine WL.g rfl rfl (Y.move rfl) ?_
      refine WL.g rfl rfl (Y.neq rfl rfl) ?_
      refine WL.v (Y.pick rfl rfl) ?_
      refine WL.m rfl ?_
      (first | refine WL.casesD (d := 51) rfl ?_ ?_ | refine WL.casesND (d := 51) rfl ?_ ?_ | refine WL.cases (d := 51) rfl ?_ ?_) <;> intro hg51
      ·
       -- t51 = T
       refine WL.g rfl rfl (Y.move rfl) ?_
       refine WL.g rfl rfl (Y.neq rfl rfl) ?_
       refine WL.v (Y.pick rfl rfl) ?_
       refine WL.m rfl ?_
       (first | refine WL.casesD (d := 55) rfl ?_ ?_ | refine WL.casesND (d := 55) rfl ?_ ?_ | refine WL.cases (d := 55) rfl ?_ ?_) <;> intro hg55
       ·
        -- t55 = T
        refine WL.g rfl rfl (Y.move rfl) ?_
        refine WL.g rfl rfl (Y.neq rfl rfl) ?_
        refine WL.v (Y.pick rfl rfl) ?_
        refine WL.m rfl ?_
        (first | refine WL.casesD (d := 59) rfl ?_ ?_ | refine WL.casesND (d := 59) rfl ?_ ?_ | refine WL.cases (d := 59) rfl ?_ ?_) <;> intro hg59
        ·
         -- t59 = T
         refine WL.g rfl rfl (Y.move rfl) ?_
         refine WL.g rfl rfl (Y.neq rfl rfl) ?_
         refine WL.v (Y.pick rfl rfl) ?_
         refine WL.nil ⟨⟨_, rfl, ?_⟩, rfl, Fr.okp⟩
         exact tst_ok
        ·
         -- t59 = F
         refine WL.o rfl rfl ?_
         refine WL.o rfl rfl ?_
         refine WL.v (Y.pick rfl rfl) ?_
         refine WL.nil ⟨⟨_, rfl, ?_⟩, rfl, Fr.okp⟩
         exact tst_ok
       ·
        -- t55 = F
        refine WL.o rfl rfl ?_
        refine WL.o rfl rfl ?_
        refine WL.v (Y.pick rfl rfl) ?_
        refine WL.m rfl ?_
        refine WL.o rfl rfl ?_
        refine WL.o rfl rfl ?_
        refine WL.v (Y.pick rfl rfl) ?_
        refine WL.nil ⟨⟨_, rfl, ?_⟩, rfl, Fr.okp⟩
        exact tst_ok
      ·
       -- t51 = F
       refine WL.o rfl rfl ?_
       refine WL.o rfl rfl ?_
       refine WL.v (Y.pick rfl rfl) ?_
       refine WL.m rfl ?_
       refine WL.o rfl rfl ?_
       refine WL.o rfl rfl ?_
       refine WL.v (Y.pick rfl rfl) ?_
       refine WL.m rfl ?_
       refine WL.o rfl rfl ?_
       refine WL.o rfl rfl ?_
       refine WL.v (Y.pick rfl rfl) ?_
       refine WL.nil ⟨⟨_, rfl, ?_⟩, rfl, Fr.okp⟩
       exact tst_ok
     ·
      -- t47 = F
      refine WL.o rfl rfl ?_
      refine WL.o rfl rfl ?_
      refine WL.v (Y.pick rfl rfl) ?_
      refine WL.m rfl ?_
      refine WL.o rfl rfl ?_
      refine WL.o rfl rfl ?_
      refine WL.v (Y.pick rfl rfl) ?_
      refine WL.m rfl ?_
      refine WL.o rfl rfl ?_
      refine WL.o rfl rfl ?_
      refine WL.v (Y.pick rfl rfl) ?_
      refine WL.m rfl ?_
      refine WL.o rfl rfl ?_
      refine WL.o rfl rfl ?_
      refine WL.v (Y.pick rfl rfl) ?_
      refine WL.nil ⟨⟨_, rfl, ?_⟩, rfl, Fr.okp⟩
      exact tst_ok
    ·
     -- t43 = F
     refine WL.o rfl rfl ?_
     refine WL.o rfl rfl ?_
     refine WL.v (Y.pick rfl rfl) ?_
     refine WL.m rfl ?_
     refine WL.o rfl rfl ?_
     refine WL.o rfl rfl ?_
     refine WL.v (Y.pick rfl rfl) ?_
     refine WL.m rfl ?_
     refine WL.o rfl rfl ?_
     refine WL.o rfl rfl ?_
     refine WL.v (Y.pick rfl rfl) ?_
     refine WL.m rfl ?_
     refine WL.o rfl rfl ?_
     refine WL.o rfl rfl ?_
     refine WL.v (Y.pick rfl rfl) ?_
     refine WL.m rfl ?_
     refine WL.o rfl rfl ?_
     refine WL.o rfl rfl ?_
     refine WL.v (Y.pick rfl rfl) ?_
     refine WL.nil ⟨⟨_, rfl, ?_⟩, rfl, Fr.okp⟩
     exact tst_ok
   ·
    -- t39 = F
    refine WL.o rfl rfl ?_
    refine WL.o rfl rfl ?_
    refine WL.v (Y.pick rfl rfl) ?_
    refine WL.m rfl ?_
    refine WL.o rfl rfl ?_
    refine WL.o rfl rfl ?_
    refine WL.v (Y.pick rfl rfl) ?_
    refine WL.m rfl ?_
    refine WL.o rfl rfl ?_
    refine WL.o rfl rfl ?_
    refine WL.v (Y.pick rfl rfl) ?_
    refine WL.m rfl ?_
    refine WL.o rfl rfl ?_
    refine WL.o rfl rfl ?_
    refine WL.v (Y.pick rfl rfl) ?_
    refine WL.m rfl ?_
    refine WL.o rfl rfl ?_
    refine WL.o rfl rfl ?_
    refine WL.v (Y.pick rfl rfl) ?_
    refine WL.m rfl ?_
    refine WL.o rfl rfl ?_
    refine WL.o rfl rfl ?_
    refine WL.v (Y.pick rfl rfl) ?_
    refine WL.nil ⟨⟨_, rfl, ?_⟩, rfl, Fr.okp⟩
    exact tst_ok
  (first | refine cd_ rfl ?_ ?_ | refine ce_ rfl ?_ ?_ | refine cn_ rfl ?_ ?_ | refine cb_ rfl ?_ ?_) <;> intro ht9
  ·
   -- then
   refine CW.sr fun K10 hK10 => ?_
   refine WL.a rfl ?_
   refine WL.nil (hK10 _ _ ?_); try clear hK10
   refine CW.ret ⟨_, rfl, ?_⟩
   refine ⟨?_, hL1⟩
   rw [nameB_no (get_toList (i := x) om_) (by simp [letter, letterI]; omega)]
  refine CW.skip ?_
  refine hK7 _ _ ?_; try clear hK7
  refine CW.region ?_
  refine WL.m rfl ?_
  refine WL.v (Y.add rfl rfl o2_) ?_
  refine WL.a rfl ?_
  refine WL.nil ?_
  refine ⟨x + 1, by omega, (Fr.le.cons rfl (Fr.le.cons rfl Fr.le.nil)), by omega, ?_, hL1⟩
  refine all_take_succ hall (get_toList om_) ?_
  simp [letter, letterI]; omega
 refine CW.exit ?_
 refine hK2 _ _ ?_; try clear hK2
 refine CW.sr fun K11 hK11 => ?_
 refine WL.m rfl ?_
 refine WL.v (Y.len_string Tryz.underlying9 rfl) ?_
 refine WL.v (Y.gtr rfl rfl) ?_
 refine WL.m rfl ?_
 (first | refine WL.casesD (d := 66) rfl ?_ ?_ | refine WL.casesND (d := 66) rfl ?_ ?_ | refine WL.cases (d := 66) rfl ?_ ?_) <;> intro hg66
 ·
  -- t66 = T
  refine WL.g rfl rfl (Y.move rfl) ?_
  refine WL.g rfl rfl (Y.len_string Tryz.underlying9 rfl) ?_
  refine WL.g rfl rfl (Y.leq rfl rfl) ?_
  refine WL.v (Y.pick rfl rfl) ?_
  refine WL.a rfl ?_
  refine WL.nil (hK11 _ _ ?_); try clear hK11
  refine CW.ret ⟨_, rfl, ?_⟩
  exact ⟨by rw [nameB_end hall om_, hsl]; congr 1; rw [Bool.eq_iff_iff]; simp; omega, hL1⟩
 ·
  -- t66 = F
  refine WL.o rfl rfl ?_
  refine WL.o rfl rfl ?_
  refine WL.o rfl rfl ?_
  refine WL.v (Y.pick rfl rfl) ?_
  refine WL.a rfl ?_
  refine WL.nil (hK11 _ _ ?_); try clear hK11
  refine CW.ret ⟨_, rfl, ?_⟩
  exact ⟨by rw [nameB_end hall om_, hsl]; congr 1; rw [Bool.eq_iff_iff]; simp; omega, hL1⟩
theorem right_any (lv : Value) (l : List OpD) (i : Int) (w : World) (hl : Sl w opC 37 lv l) (hi : InI64 i) : Calls Tryz.prog 70 #[lv, .int .i64 i] w (Ret fun v w' => v = .int .i64 (rightI l i) ∧ Ext w w') := by
 obtain ⟨A, m, c, rfl, hm, hmc, hcm, hls⟩ := hl
 unfold maxLen at hcm
 refine calls_of_CW 69 [4] [(0, .slice A m c), (1, .int .i64 i)] Tryz.func70 rfl rfl rfl (by simp) args2 ?_
 refine CW.sr fun K1 hK1 => ?_
 refine WL.a rfl ?_
 refine WL.nil (hK1 _ _ ?_); try clear hK1
 refine CW.seq fun K2 hK2 => ?_
 refine CW.seq_test 13 (i < 1 ∨ (m : Int) < i) ?_ ?_
 ·
  refine CW.region ?_
  refine WL.m rfl ?_
  refine WL.v (Y.lss rfl rfl) ?_
  refine WL.m rfl ?_
  (first | refine WL.casesD (d := 8) rfl ?_ ?_ | refine WL.casesND (d := 8) rfl ?_ ?_ | refine WL.cases (d := 8) rfl ?_ ?_) <;> intro hg8
  ·
   -- t8 = T
   refine WL.o rfl rfl ?_
   refine WL.o rfl rfl ?_
   refine WL.o rfl rfl ?_
   refine WL.o rfl rfl ?_
   refine WL.v (Y.pick rfl rfl) ?_
   refine WL.nil ⟨⟨_, rfl, ?_⟩, rfl, Fr.okp⟩
   exact tst_ok
  ·
   -- t8 = F
   refine WL.g rfl rfl (Y.move rfl) ?_
   refine WL.g rfl rfl (Y.move rfl) ?_
   refine WL.g rfl rfl (Y.len_slice Tryz.underlying43 rfl) ?_
   refine WL.g rfl rfl (Y.gtr rfl rfl) ?_
   refine WL.v (Y.pick rfl rfl) ?_
   refine WL.nil ⟨⟨_, rfl, ?_⟩, rfl, Fr.okp⟩
   exact tst_ok
 (first | refine cd_ rfl ?_ ?_ | refine ce_ rfl ?_ ?_ | refine cn_ rfl ?_ ?_ | refine cb_ rfl ?_ ?_) <;> intro ht3
 ·
  -- then
  refine CW.sr fun K4 hK4 => ?_
  refine WL.a rfl ?_
  refine WL.nil (hK4 _ _ ?_); try clear hK4
  refine CW.ret ⟨_, rfl, ?_⟩
  exact ⟨by rw [rightI, if_pos (by rw [hm]; exact ht3)], Chg.refl⟩
 refine CW.skip ?_
 refine hK2 _ _ ?_; try clear hK2
 refine CW.seq fun K5 hK5 => ?_
 have hlo : ¬ (i < 1 ∨ (m : Int) < i) := ht3
 obtain ⟨x, hx⟩ : ∃ x, l[(i - 1).toNat]? = some x := ⟨_, List.getElem?_eq_getElem om_⟩
 obtain ⟨ad, rfl, hmx⟩ := hls _ x hx
 have hval : rightI l i = rightX l i x := rightI_of (by rw [hm]; exact hlo) hx
 refine CW.region ?_
 refine WL.m rfl ?_
 refine WL.m rfl ?_
 refine WL.v (Y.sub rfl rfl o2_) ?_
 refine WL.v (Y.indexAddr Tryz.underlying43 rfl rfl sz0_apiOp om_ om_) ?_
 refine WL.v (Y.load Tryz.underlying89 rfl hmx (sz_apiOp _) rfl) ?_
 refine as_apiOp rfl (by simp) de_ fun g5 w1 hx1 hg5 hB5 => ?_
 have hM5 := hB5.mem
 refine WL.nil (hK5 _ _ ?_); try clear hK5
 refine CW.seq fun K6 hK6 => ?_
 refine CW.sr fun K7 hK7 => ?_
 refine WL.v (Y.fieldAddr fo_apiOp2 rfl) ?_
 refine WL.v (Y.load Tryz.underlying87 rfl hM5.op2 (sz_apiRef _) rfl) ?_
 refine WL.call Tryz.func85 rfl rfl rfl ((ref_any _ _)) (by simp) ?_; rintro v w2 ⟨rfl, hx2⟩; have hM5 := hM5.ext hx2
 refine WL.v (Y.not rfl) ?_
 refine WL.nil (hK7 _ _ ?_); try clear hK7
 (first | refine cd_ rfl ?_ ?_ | refine ce_ rfl ?_ ?_ | refine cn_ rfl ?_ ?_ | refine cb_ rfl ?_ ?_) <;> intro ht8
 ·
  -- then
  refine CW.sr fun K9 hK9 => ?_
  refine WL.a rfl ?_
  refine WL.nil (hK9 _ _ ?_); try clear hK9
  refine CW.ret ⟨_, rfl, ?_⟩
  exact ⟨by rw [hval]; first | (simp_all [rightX]; done) | (simp_all [rightX]; omega), (hx1.thenExt hx2)⟩
 refine CW.skip ?_
 refine hK6 _ _ ?_; try clear hK6
 refine CW.seq_join (fun w0 => Ext w2 w0 ∧ (¬ (x.kind = 1 ∧ (x.left = true ∧ rootB x.at_ = true)) ∧ ¬ (x.kind = 2 ∧ (x.left = true ∨ (x.byte.toNat : Int) ≠ 0 ∨ rootB x.at_ = true)) ∧ ¬ (x.kind ≠ 1 ∧ x.kind ≠ 2))) ?_ ?_
 ·
  skip
  refine CW.sr fun K11 hK11 => ?_
  refine WL.v (Y.fieldAddr fo_apiOp0 rfl) ?_
  refine WL.v (Y.load1 Tryz.underlying3 rfl hM5.op0 rfl) ?_
  refine WL.nil (hK11 _ _ ?_); try clear hK11
  refine CW.block ?_
  refine CW.sr fun K12 hK12 => ?_
  refine WL.v (Y.eql rfl rfl) ?_
  refine WL.a rfl ?_
  refine WL.nil (hK12 _ _ ?_); try clear hK12
  (first | refine cd_ rfl ?_ ?_ | refine ce_ rfl ?_ ?_ | refine cn_ rfl ?_ ?_ | refine cb_ rfl ?_ ?_) <;> intro ht13
  ·
   -- then
   refine CW.seq_testE 33 (x.left = true ∧ rootB x.at_ = true) ?_ ?_
   ·
    refine CW.region ?_
    refine WL.v (Y.fieldAddr fo_apiOp1 rfl) ?_
    refine WL.v (Y.load1 Tryz.underlying4 rfl hM5.op1 rfl) ?_
    refine WL.m rfl ?_
    (first | refine WL.casesD (d := 29) rfl ?_ ?_ | refine WL.casesND (d := 29) rfl ?_ ?_ | refine WL.cases (d := 29) rfl ?_ ?_) <;> intro hg29
    ·
     -- t29 = T
     refine WL.g rfl rfl (Y.fieldAddr fo_apiOp2 rfl) ?_
     refine WL.g rfl rfl (Y.load Tryz.underlying87 rfl hM5.op2 (sz_apiRef _) rfl) ?_
     refine WL.gcall rfl rfl Tryz.func86 rfl rfl rfl ((root_any _ _)) de_ ?_; rintro v w3 ⟨rfl, hx3⟩; have hM5 := hM5.ext hx3
     refine WL.v (Y.pick rfl rfl) ?_
     refine WL.nil ⟨⟨_, rfl, ?_⟩, hx3, Fr.okp⟩
     exact tst_ok
    ·
     -- t29 = F
     refine WL.o rfl rfl ?_
     refine WL.o rfl rfl ?_
     refine WL.o rfl rfl ?_
     refine WL.v (Y.pick rfl rfl) ?_
     refine WL.nil ⟨⟨_, rfl, ?_⟩, Chg.refl, Fr.okp⟩
     exact tst_ok
   intro w4 hx4; have hM5 := hM5.ext hx4
   (first | refine cd_ rfl ?_ ?_ | refine ce_ rfl ?_ ?_ | refine cn_ rfl ?_ ?_ | refine cb_ rfl ?_ ?_) <;> intro ht14
   ·
    -- then
    refine CW.sr fun K15 hK15 => ?_
    refine WL.a rfl ?_
    refine WL.nil (hK15 _ _ ?_); try clear hK15
    refine CW.ret ⟨_, rfl, ?_⟩
    exact ⟨by rw [hval]; first | (simp_all [rightX]; done) | (simp_all [rightX]; omega), ((hx1.thenExt hx2).thenExt hx4)⟩
   refine CW.skip ?_
   exact ⟨Fr.okp, hx4, (by first | (simp_all; done) | (simp_all; omega))⟩
  refine CW.sr fun K16 hK16 => ?_
  refine WL.v (Y.eql rfl rfl) ?_
  refine WL.a rfl ?_
  refine WL.nil (hK16 _ _ ?_); try clear hK16
  (first | refine cd_ rfl ?_ ?_ | refine ce_ rfl ?_ ?_ | refine cn_ rfl ?_ ?_ | refine cb_ rfl ?_ ?_) <;> intro ht17
  ·
   -- then
   refine CW.seq_testE 47 (x.left = true ∨ (x.byte.toNat : Int) ≠ 0 ∨ rootB x.at_ = true) ?_ ?_
   ·
    refine CW.region ?_
    refine WL.v (Y.fieldAddr fo_apiOp1 rfl) ?_
    refine WL.v (Y.load1 Tryz.underlying4 rfl hM5.op1 rfl) ?_
    refine WL.m rfl ?_
    (first | refine WL.casesD (d := 38) rfl ?_ ?_ | refine WL.casesND (d := 38) rfl ?_ ?_ | refine WL.cases (d := 38) rfl ?_ ?_) <;> intro hg38
    ·
     -- t38 = T
     refine WL.o rfl rfl ?_
     refine WL.o rfl rfl ?_
     refine WL.o rfl rfl ?_
     refine WL.v (Y.pick rfl rfl) ?_
     refine WL.m rfl ?_
     refine WL.o rfl rfl ?_
     refine WL.o rfl rfl ?_
     refine WL.o rfl rfl ?_
     refine WL.v (Y.pick rfl rfl) ?_
     refine WL.nil ⟨⟨_, rfl, ?_⟩, Chg.refl, Fr.okp⟩
     exact tst_ok
    ·
     -- t38 = F
     refine WL.g rfl rfl (Y.fieldAddr fo_apiOp3 rfl) ?_
     refine WL.g rfl rfl (Y.load1 Tryz.underlying5 rfl hM5.op3 rfl) ?_
     refine WL.g rfl rfl (Y.neq rfl rfl) ?_
     refine WL.v (Y.pick rfl rfl) ?_
     refine WL.m rfl ?_
     (first | refine WL.casesD (d := 43) rfl ?_ ?_ | refine WL.casesND (d := 43) rfl ?_ ?_ | refine WL.cases (d := 43) rfl ?_ ?_) <;> intro hg43
     ·
      -- t43 = T
      refine WL.o rfl rfl ?_
      refine WL.o rfl rfl ?_
      refine WL.o rfl rfl ?_
      refine WL.v (Y.pick rfl rfl) ?_
      refine WL.nil ⟨⟨_, rfl, ?_⟩, Chg.refl, Fr.okp⟩
      exact tst_ok
     ·
      -- t43 = F
      refine WL.g rfl rfl (Y.fieldAddr fo_apiOp2 rfl) ?_
      refine WL.g rfl rfl (Y.load Tryz.underlying87 rfl hM5.op2 (sz_apiRef _) rfl) ?_
      refine WL.gcall rfl rfl Tryz.func86 rfl rfl rfl ((root_any _ _)) de_ ?_; rintro v w5 ⟨rfl, hx5⟩; have hM5 := hM5.ext hx5
      refine WL.v (Y.pick rfl rfl) ?_
      refine WL.nil ⟨⟨_, rfl, ?_⟩, hx5, Fr.okp⟩
      exact tst_ok
   intro w6 hx6; have hM5 := hM5.ext hx6
   (first | refine cd_ rfl ?_ ?_ | refine ce_ rfl ?_ ?_ | refine cn_ rfl ?_ ?_ | refine cb_ rfl ?_ ?_) <;> intro ht18
   ·
    -- then
    refine CW.sr fun K19 hK19 => ?_
    refine WL.a rfl ?_
    refine WL.nil (hK19 _ _ ?_); try clear hK19
    refine CW.ret ⟨_, rfl, ?_⟩
    exact ⟨by rw [hval]; first | (simp_all [rightX]; done) | (simp_all [rightX]; omega), ((hx1.thenExt hx2).thenExt hx6)⟩
   refine CW.skip ?_
   exact ⟨Fr.okp, hx6, (by first | (simp_all; done) | (simp_all; omega))⟩
  refine CW.sr fun K20 hK20 => ?_
  refine WL.a rfl ?_
  refine WL.nil (hK20 _ _ ?_); try clear hK20
  refine CW.ret ⟨_, rfl, ?_⟩
  exact ⟨by rw [hval]; first | (simp_all [rightX]; done) | (simp_all [rightX]; omega), (hx1.thenExt hx2)⟩
 rintro w7 ⟨hx7, hj7⟩; have hM5 := hM5.ext hx7
 refine CW.seq fun K21 hK21 => ?_
 refine CW.seq_test 68 (x.at_.own = true ∧ (i ≤ x.at_.n ∨ kindAt l (x.at_.n - 1).toNat ≠ 1)) ?_ ?_
 ·
  refine CW.region ?_
  refine WL.v (Y.fieldAddr fo_apiOp2 rfl) ?_
  refine WL.v (Y.fieldAddr fo_apiRef0 rfl) ?_
  refine WL.v (Y.load1 Tryz.underlying4 rfl hM5.op2.ref0 rfl) ?_
  refine WL.m rfl ?_
  (first | refine WL.casesD (d := 51) rfl ?_ ?_ | refine WL.casesND (d := 51) rfl ?_ ?_ | refine WL.cases (d := 51) rfl ?_ ?_) <;> intro hg51
  ·
   -- t51 = T
   refine WL.g rfl rfl (Y.fieldAddr fo_apiOp2 rfl) ?_
   refine WL.g rfl rfl (Y.fieldAddr fo_apiRef2 rfl) ?_
   refine WL.g rfl rfl (Y.load1 Tryz.underlying3 rfl hM5.op2.ref2 rfl) ?_
   refine WL.g rfl rfl (Y.move rfl) ?_
   refine WL.g rfl rfl (Y.geq rfl rfl) ?_
   refine WL.g rfl rfl (Y.move rfl) ?_
   (first | refine WL.casesD (d := 57) rfl ?_ ?_ | refine WL.casesND (d := 57) rfl ?_ ?_ | refine WL.cases (d := 57) rfl ?_ ?_) <;> intro hg57
   ·
    -- t57 = T
    refine WL.o rfl rfl ?_
    refine WL.o rfl rfl ?_
    refine WL.o rfl rfl ?_
    refine WL.o rfl rfl ?_
    refine WL.o rfl rfl ?_
    refine WL.o rfl rfl ?_
    refine WL.o rfl rfl ?_
    refine WL.o rfl rfl ?_
    refine WL.o rfl rfl ?_
    refine WL.g rfl rfl (Y.pick rfl rfl) ?_
    refine WL.v (Y.pick rfl rfl) ?_
    refine WL.nil ⟨⟨_, rfl, ?_⟩, rfl, Fr.okp⟩
    exact tst_ok
   ·
    -- t57 = F
    refine WL.g rfl rfl (Y.move rfl) ?_
    refine WL.g rfl rfl (Y.fieldAddr fo_apiOp2 rfl) ?_
    refine WL.g rfl rfl (Y.fieldAddr fo_apiRef2 rfl) ?_
    refine WL.g rfl rfl (Y.load1 Tryz.underlying3 rfl hM5.op2.ref2 rfl) ?_
    have hn : 0 < x.at_.n := by first | (have h1 := (rk1 x.at_).1 (by assumption); simp [refB, h1.1] at h1; exact h1.2) | (simp_all [refB]; done)
    obtain ⟨y, hy⟩ : ∃ y, l[(x.at_.n - 1).toNat]? = some y := ⟨_, List.getElem?_eq_getElem om_⟩
    obtain ⟨ad', e, hmy⟩ := hls _ y hy
    injection e with e; subst e
    have hk : kindAt l (x.at_.n - 1).toNat = y.kind := by rw [kindAt, hy]; rfl
    refine WL.g rfl rfl (Y.sub rfl rfl o2_) ?_
    refine WL.g rfl rfl (Y.indexAddr Tryz.underlying43 rfl rfl sz0_apiOp om_ om_) ?_
    refine WL.g rfl rfl (Y.fieldAddr fo_apiOp0 rfl) ?_
    refine WL.g rfl rfl (Y.load1 Tryz.underlying3 rfl (hmy.ext ((hx1.thenExt hx2).thenExt hx7)).op0 rfl) ?_
    refine WL.g rfl rfl (Y.neq rfl rfl) ?_
    refine WL.g rfl rfl (Y.pick rfl rfl) ?_
    refine WL.v (Y.pick rfl rfl) ?_
    refine WL.nil ⟨⟨_, rfl, ?_⟩, rfl, Fr.okp⟩
    exact tst_ok
  ·
   -- t51 = F
   refine WL.o rfl rfl ?_
   refine WL.o rfl rfl ?_
   refine WL.o rfl rfl ?_
   refine WL.o rfl rfl ?_
   refine WL.o rfl rfl ?_
   refine WL.o rfl rfl ?_
   refine WL.goffU rfl rfl de_ ?_
   refine WL.goffU rfl rfl de_ ?_
   refine WL.goffU rfl rfl de_ ?_
   refine WL.goffU rfl rfl de_ ?_
   refine WL.goffU rfl rfl de_ ?_
   refine WL.goffU rfl rfl de_ ?_
   refine WL.goffU rfl rfl de_ ?_
   refine WL.goffU rfl rfl de_ ?_
   refine WL.goffU rfl rfl de_ ?_
   refine WL.o rfl rfl ?_
   refine WL.v (Y.pick rfl rfl) ?_
   refine WL.nil ⟨⟨_, rfl, ?_⟩, rfl, Fr.okp⟩
   exact tst_ok
 (first | refine cd_ rfl ?_ ?_ | refine ce_ rfl ?_ ?_ | refine cn_ rfl ?_ ?_ | refine cb_ rfl ?_ ?_) <;> intro ht22
 ·
  -- then
  refine CW.sr fun K23 hK23 => ?_
  refine WL.a rfl ?_
  refine WL.nil (hK23 _ _ ?_); try clear hK23
  refine CW.ret ⟨_, rfl, ?_⟩
  exact ⟨by rw [hval, rightX, if_neg (by simp [ht8]), if_neg hj7.1, if_neg hj7.2.1, if_neg hj7.2.2, if_pos (by assumption)], ((hx1.thenExt hx2).thenExt hx7)⟩
 refine CW.skip ?_
 refine hK21 _ _ ?_; try clear hK21
 refine CW.sr fun K24 hK24 => ?_
 refine WL.a rfl ?_
 refine WL.nil (hK24 _ _ ?_); try clear hK24
 refine CW.ret ⟨_, rfl, ?_⟩
 exact ⟨by rw [hval, rightX, if_neg (by simp [ht8]), if_neg hj7.1, if_neg hj7.2.1, if_neg hj7.2.2, if_neg (by assumption)], ((hx1.thenExt hx2).thenExt hx7)⟩
theorem rRight_any (lv : Value) (l : List OpD) (i : Int) (w : World) (hl : Sl w opC 37 lv l) (hi : InI64 i) : Calls Tryz.prog 57 #[lv, .int .i64 i] w (Ret fun v w' => v = .int .i64 (rightI l i) ∧ Ext w w') := by
 obtain ⟨A, m, c, rfl, hm, hmc, hcm, hls⟩ := hl
 unfold maxLen at hcm
 refine calls_of_CW 84 [4] [(0, .slice A m c), (1, .int .i64 i)] Tryz.func57 rfl rfl rfl (by simp) args2 ?_
 refine CW.sr fun K1 hK1 => ?_
 refine WL.a rfl ?_
 refine WL.nil (hK1 _ _ ?_); try clear hK1
 refine CW.seq fun K2 hK2 => ?_
 refine CW.seq_test 16 (i < 1 ∨ (m : Int) < i) ?_ ?_
 ·
  refine CW.region ?_
  refine WL.m rfl ?_
  refine WL.v (Y.lss rfl rfl) ?_
  refine WL.m rfl ?_
  (first | refine WL.casesD (d := 11) rfl ?_ ?_ | refine WL.casesND (d := 11) rfl ?_ ?_ | refine WL.cases (d := 11) rfl ?_ ?_) <;> intro hg11
  ·
   -- t11 = T
   refine WL.o rfl rfl ?_
   refine WL.o rfl rfl ?_
   refine WL.o rfl rfl ?_
   refine WL.o rfl rfl ?_
   refine WL.v (Y.pick rfl rfl) ?_
   refine WL.nil ⟨⟨_, rfl, ?_⟩, rfl, Fr.okp⟩
   exact tst_ok
  ·
   -- t11 = F
   refine WL.g rfl rfl (Y.move rfl) ?_
   refine WL.g rfl rfl (Y.move rfl) ?_
   refine WL.g rfl rfl (Y.len_slice Tryz.underlying43 rfl) ?_
   refine WL.g rfl rfl (Y.gtr rfl rfl) ?_
   refine WL.v (Y.pick rfl rfl) ?_
   refine WL.nil ⟨⟨_, rfl, ?_⟩, rfl, Fr.okp⟩
   exact tst_ok
 (first | refine cd_ rfl ?_ ?_ | refine ce_ rfl ?_ ?_ | refine cn_ rfl ?_ ?_ | refine cb_ rfl ?_ ?_) <;> intro ht3
 ·
  -- then
  refine CW.sr fun K4 hK4 => ?_
  refine WL.a rfl ?_
  refine WL.nil (hK4 _ _ ?_); try clear hK4
  refine CW.ret ⟨_, rfl, ?_⟩
  exact ⟨by rw [rightI, if_pos (by rw [hm]; exact ht3)], Chg.refl⟩
 refine CW.skip ?_
 refine hK2 _ _ ?_; try clear hK2
 refine CW.seq fun K5 hK5 => ?_
 have hlo : ¬ (i < 1 ∨ (m : Int) < i) := ht3
 obtain ⟨x, hx⟩ : ∃ x, l[(i - 1).toNat]? = some x := ⟨_, List.getElem?_eq_getElem om_⟩
 obtain ⟨ad, rfl, hmx⟩ := hls _ x hx
 have hval : rightI l i = rightX l i x := rightI_of (by rw [hm]; exact hlo) hx
 refine CW.region ?_
 refine WL.m rfl ?_
 refine WL.m rfl ?_
 refine WL.v (Y.sub rfl rfl o2_) ?_
 refine WL.v (Y.indexAddr Tryz.underlying43 rfl rfl sz0_apiOp om_ om_) ?_
 refine WL.v (Y.load Tryz.underlying89 rfl hmx (sz_apiOp _) rfl) ?_
 refine as_apiOp rfl (by simp) de_ fun g5 w1 hx1 hg5 hB5 => ?_
 have hM5 := hB5.mem
 refine WL.nil (hK5 _ _ ?_); try clear hK5
 refine CW.sr fun K6 hK6 => ?_
 refine WL.v (Y.fieldAddr fo_apiOp2 rfl) ?_
 refine WL.v (Y.load Tryz.underlying87 rfl hM5.op2 (sz_apiRef _) rfl) ?_
 refine WL.call Tryz.func76 rfl rfl rfl ((rRef_any _ _)) (by simp) ?_; rintro v w2 ⟨rfl, hx2⟩; have hM5 := hM5.ext hx2
 refine WL.a rfl ?_
 refine WL.nil (hK6 _ _ ?_); try clear hK6
 refine CW.seq_test 7 (x.kind = 1 ∧ ¬ (refKind x.at_ = 0 ∧ x.left = true)) ?_ ?_
 ·
  refine CW.region ?_
  refine WL.v (Y.fieldAddr fo_apiOp0 rfl) ?_
  refine WL.v (Y.load1 Tryz.underlying3 rfl hM5.op0 rfl) ?_
  refine WL.v (Y.eql rfl rfl) ?_
  refine WL.m rfl ?_
  (first | refine WL.casesD (d := 28) rfl ?_ ?_ | refine WL.casesND (d := 28) rfl ?_ ?_ | refine WL.cases (d := 28) rfl ?_ ?_) <;> intro hg28
  ·
   -- t28 = T
   refine WL.g rfl rfl (Y.move rfl) ?_
   refine WL.g rfl rfl (Y.eql rfl rfl) ?_
   refine WL.g rfl rfl (Y.move rfl) ?_
   (first | refine WL.casesD (d := 31) rfl ?_ ?_ | refine WL.casesND (d := 31) rfl ?_ ?_ | refine WL.cases (d := 31) rfl ?_ ?_) <;> intro hg31
   ·
    -- t31 = T
    refine WL.g rfl rfl (Y.fieldAddr fo_apiOp1 rfl) ?_
    refine WL.g rfl rfl (Y.load1 Tryz.underlying4 rfl hM5.op1 rfl) ?_
    refine WL.g rfl rfl (Y.pick rfl rfl) ?_
    refine WL.g rfl rfl (Y.not rfl) ?_
    refine WL.v (Y.pick rfl rfl) ?_
    refine WL.a rfl ?_
    refine WL.nil ⟨⟨_, rfl, ?_⟩, rfl, Fr.okp⟩
    exact tst_ok
   ·
    -- t31 = F
    refine WL.o rfl rfl ?_
    refine WL.o rfl rfl ?_
    refine WL.g rfl rfl (Y.pick rfl rfl) ?_
    refine WL.g rfl rfl (Y.not rfl) ?_
    refine WL.v (Y.pick rfl rfl) ?_
    refine WL.a rfl ?_
    refine WL.nil ⟨⟨_, rfl, ?_⟩, rfl, Fr.okp⟩
    exact tst_ok
  ·
   -- t28 = F
   refine WL.o rfl rfl ?_
   refine WL.o rfl rfl ?_
   refine WL.o rfl rfl ?_
   refine WL.goffU rfl rfl de_ ?_
   refine WL.goffU rfl rfl de_ ?_
   refine WL.o rfl rfl ?_
   refine WL.o rfl rfl ?_
   refine WL.v (Y.pick rfl rfl) ?_
   refine WL.a rfl ?_
   refine WL.nil ⟨⟨_, rfl, ?_⟩, rfl, Fr.okp⟩
   exact tst_ok
 refine CW.seq_test 8 (x.kind = 2 ∧ refKind x.at_ ≠ 0 ∧ x.left = false ∧ (x.byte.toNat : Int) = 0) ?_ ?_
 ·
  refine CW.region ?_
  refine WL.v (Y.fieldAddr fo_apiOp0 rfl) ?_
  refine WL.v (Y.load1 Tryz.underlying3 rfl hM5.op0 rfl) ?_
  refine WL.v (Y.eql rfl rfl) ?_
  refine WL.m rfl ?_
  (first | refine WL.casesD (d := 40) rfl ?_ ?_ | refine WL.casesND (d := 40) rfl ?_ ?_ | refine WL.cases (d := 40) rfl ?_ ?_) <;> intro hg40
  ·
   -- t40 = T
   refine WL.g rfl rfl (Y.move rfl) ?_
   refine WL.g rfl rfl (Y.neq rfl rfl) ?_
   refine WL.v (Y.pick rfl rfl) ?_
   refine WL.m rfl ?_
   (first | refine WL.casesD (d := 44) rfl ?_ ?_ | refine WL.casesND (d := 44) rfl ?_ ?_ | refine WL.cases (d := 44) rfl ?_ ?_) <;> intro hg44
   ·
    -- t44 = T
    refine WL.g rfl rfl (Y.fieldAddr fo_apiOp1 rfl) ?_
    refine WL.g rfl rfl (Y.load1 Tryz.underlying4 rfl hM5.op1 rfl) ?_
    refine WL.g rfl rfl (Y.not rfl) ?_
    refine WL.v (Y.pick rfl rfl) ?_
    refine WL.m rfl ?_
    (first | refine WL.casesD (d := 49) rfl ?_ ?_ | refine WL.casesND (d := 49) rfl ?_ ?_ | refine WL.cases (d := 49) rfl ?_ ?_) <;> intro hg49
    ·
     -- t49 = T
     refine WL.g rfl rfl (Y.fieldAddr fo_apiOp3 rfl) ?_
     refine WL.g rfl rfl (Y.load1 Tryz.underlying5 rfl hM5.op3 rfl) ?_
     refine WL.g rfl rfl (Y.eql rfl rfl) ?_
     refine WL.v (Y.pick rfl rfl) ?_
     refine WL.a rfl ?_
     refine WL.nil ⟨⟨_, rfl, ?_⟩, rfl, Fr.okp⟩
     exact tst_ok
    ·
     -- t49 = F
     refine WL.o rfl rfl ?_
     refine WL.o rfl rfl ?_
     refine WL.o rfl rfl ?_
     refine WL.v (Y.pick rfl rfl) ?_
     refine WL.a rfl ?_
     refine WL.nil ⟨⟨_, rfl, ?_⟩, rfl, Fr.okp⟩
     exact tst_ok
   ·
    -- t44 = F
    refine WL.o rfl rfl ?_
    refine WL.o rfl rfl ?_
    refine WL.o rfl rfl ?_
    refine WL.v (Y.pick rfl rfl) ?_
    refine WL.m rfl ?_
    refine WL.o rfl rfl ?_
    refine WL.o rfl rfl ?_
    refine WL.o rfl rfl ?_
    refine WL.v (Y.pick rfl rfl) ?_
    refine WL.a rfl ?_
    refine WL.nil ⟨⟨_, rfl, ?_⟩, rfl, Fr.okp⟩
    exact tst_ok
  ·
   -- t40 = F
   refine WL.o rfl rfl ?_
   refine WL.o rfl rfl ?_
   refine WL.v (Y.pick rfl rfl) ?_
   refine WL.m rfl ?_
   refine WL.o rfl rfl ?_
   refine WL.o rfl rfl ?_
   refine WL.o rfl rfl ?_
   refine WL.v (Y.pick rfl rfl) ?_
   refine WL.m rfl ?_
   refine WL.o rfl rfl ?_
   refine WL.o rfl rfl ?_
   refine WL.o rfl rfl ?_
   refine WL.v (Y.pick rfl rfl) ?_
   refine WL.a rfl ?_
   refine WL.nil ⟨⟨_, rfl, ?_⟩, rfl, Fr.okp⟩
   exact tst_ok
 refine CW.seq fun K7 hK7 => ?_
 refine CW.seq_test 63 (refKind x.at_ = 3 ∨ (¬ (x.kind = 1 ∧ ¬ (refKind x.at_ = 0 ∧ x.left = true)) ∧ ¬ (x.kind = 2 ∧ refKind x.at_ ≠ 0 ∧ x.left = false ∧ (x.byte.toNat : Int) = 0))) ?_ ?_
 ·
  refine CW.region ?_
  refine WL.m rfl ?_
  refine WL.v (Y.eql rfl rfl) ?_
  refine WL.m rfl ?_
  (first | refine WL.casesD (d := 56) rfl ?_ ?_ | refine WL.casesND (d := 56) rfl ?_ ?_ | refine WL.cases (d := 56) rfl ?_ ?_) <;> intro hg56
  ·
   -- t56 = T
   refine WL.o rfl rfl ?_
   refine WL.o rfl rfl ?_
   refine WL.o rfl rfl ?_
   refine WL.goffU rfl rfl de_ ?_
   refine WL.goffU rfl rfl de_ ?_
   refine WL.o rfl rfl ?_
   refine WL.v (Y.pick rfl rfl) ?_
   refine WL.nil ⟨⟨_, rfl, ?_⟩, rfl, Fr.okp⟩
   exact tst_ok
  ·
   -- t56 = F
   refine WL.g rfl rfl (Y.move rfl) ?_
   refine WL.g rfl rfl (Y.not rfl) ?_
   refine WL.g rfl rfl (Y.move rfl) ?_
   (first | refine WL.casesD (d := 59) rfl ?_ ?_ | refine WL.casesND (d := 59) rfl ?_ ?_ | refine WL.cases (d := 59) rfl ?_ ?_) <;> intro hg59
   ·
    -- t59 = T
    refine WL.g rfl rfl (Y.move rfl) ?_
    refine WL.g rfl rfl (Y.not rfl) ?_
    refine WL.g rfl rfl (Y.pick rfl rfl) ?_
    refine WL.v (Y.pick rfl rfl) ?_
    refine WL.nil ⟨⟨_, rfl, ?_⟩, rfl, Fr.okp⟩
    exact tst_ok
   ·
    -- t59 = F
    refine WL.o rfl rfl ?_
    refine WL.o rfl rfl ?_
    refine WL.g rfl rfl (Y.pick rfl rfl) ?_
    refine WL.v (Y.pick rfl rfl) ?_
    refine WL.nil ⟨⟨_, rfl, ?_⟩, rfl, Fr.okp⟩
    exact tst_ok
 (first | refine cd_ rfl ?_ ?_ | refine ce_ rfl ?_ ?_ | refine cn_ rfl ?_ ?_ | refine cb_ rfl ?_ ?_) <;> intro ht8
 ·
  -- then
  refine CW.sr fun K9 hK9 => ?_
  refine WL.a rfl ?_
  refine WL.nil (hK9 _ _ ?_); try clear hK9
  refine CW.ret ⟨_, rfl, ?_⟩
  exact ⟨by rw [hval, rightX_alt, if_pos (by assumption)], (hx1.thenExt hx2)⟩
 refine CW.skip ?_
 refine hK7 _ _ ?_; try clear hK7
 refine CW.seq fun K10 hK10 => ?_
 refine CW.seq_test 83 (refKind x.at_ = 1 ∧ (i ≤ x.at_.n ∨ kindAt l (x.at_.n - 1).toNat ≠ 1)) ?_ ?_
 ·
  refine CW.region ?_
  refine WL.m rfl ?_
  refine WL.v (Y.eql rfl rfl) ?_
  refine WL.m rfl ?_
  (first | refine WL.casesD (d := 66) rfl ?_ ?_ | refine WL.casesND (d := 66) rfl ?_ ?_ | refine WL.cases (d := 66) rfl ?_ ?_) <;> intro hg66
  ·
   -- t66 = T
   refine WL.g rfl rfl (Y.fieldAddr fo_apiOp2 rfl) ?_
   refine WL.g rfl rfl (Y.fieldAddr fo_apiRef2 rfl) ?_
   refine WL.g rfl rfl (Y.load1 Tryz.underlying3 rfl hM5.op2.ref2 rfl) ?_
   refine WL.g rfl rfl (Y.move rfl) ?_
   refine WL.g rfl rfl (Y.geq rfl rfl) ?_
   refine WL.g rfl rfl (Y.move rfl) ?_
   (first | refine WL.casesD (d := 72) rfl ?_ ?_ | refine WL.casesND (d := 72) rfl ?_ ?_ | refine WL.cases (d := 72) rfl ?_ ?_) <;> intro hg72
   ·
    -- t72 = T
    refine WL.o rfl rfl ?_
    refine WL.o rfl rfl ?_
    refine WL.o rfl rfl ?_
    refine WL.o rfl rfl ?_
    refine WL.o rfl rfl ?_
    refine WL.o rfl rfl ?_
    refine WL.o rfl rfl ?_
    refine WL.o rfl rfl ?_
    refine WL.o rfl rfl ?_
    refine WL.g rfl rfl (Y.pick rfl rfl) ?_
    refine WL.v (Y.pick rfl rfl) ?_
    refine WL.nil ⟨⟨_, rfl, ?_⟩, rfl, Fr.okp⟩
    exact tst_ok
   ·
    -- t72 = F
    refine WL.g rfl rfl (Y.move rfl) ?_
    refine WL.g rfl rfl (Y.fieldAddr fo_apiOp2 rfl) ?_
    refine WL.g rfl rfl (Y.fieldAddr fo_apiRef2 rfl) ?_
    refine WL.g rfl rfl (Y.load1 Tryz.underlying3 rfl hM5.op2.ref2 rfl) ?_
    have hn : 0 < x.at_.n := by first | (have h1 := (rk1 x.at_).1 (by assumption); simp [refB, h1.1] at h1; exact h1.2) | (simp_all [refB]; done)
    obtain ⟨y, hy⟩ : ∃ y, l[(x.at_.n - 1).toNat]? = some y := ⟨_, List.getElem?_eq_getElem om_⟩
    obtain ⟨ad', e, hmy⟩ := hls _ y hy
    injection e with e; subst e
    have hk : kindAt l (x.at_.n - 1).toNat = y.kind := by rw [kindAt, hy]; rfl
    refine WL.g rfl rfl (Y.sub rfl rfl o2_) ?_
    refine WL.g rfl rfl (Y.indexAddr Tryz.underlying43 rfl rfl sz0_apiOp om_ om_) ?_
    refine WL.g rfl rfl (Y.fieldAddr fo_apiOp0 rfl) ?_
    refine WL.g rfl rfl (Y.load1 Tryz.underlying3 rfl (hmy.ext (hx1.thenExt hx2)).op0 rfl) ?_
    refine WL.g rfl rfl (Y.neq rfl rfl) ?_
    refine WL.g rfl rfl (Y.pick rfl rfl) ?_
    refine WL.v (Y.pick rfl rfl) ?_
    refine WL.nil ⟨⟨_, rfl, ?_⟩, rfl, Fr.okp⟩
    exact tst_ok
  ·
   -- t66 = F
   refine WL.o rfl rfl ?_
   refine WL.o rfl rfl ?_
   refine WL.o rfl rfl ?_
   refine WL.o rfl rfl ?_
   refine WL.o rfl rfl ?_
   refine WL.o rfl rfl ?_
   refine WL.goffU rfl rfl de_ ?_
   refine WL.goffU rfl rfl de_ ?_
   refine WL.goffU rfl rfl de_ ?_
   refine WL.goffU rfl rfl de_ ?_
   refine WL.goffU rfl rfl de_ ?_
   refine WL.goffU rfl rfl de_ ?_
   refine WL.goffU rfl rfl de_ ?_
   refine WL.goffU rfl rfl de_ ?_
   refine WL.goffU rfl rfl de_ ?_
   refine WL.o rfl rfl ?_
   refine WL.v (Y.pick rfl rfl) ?_
   refine WL.nil ⟨⟨_, rfl, ?_⟩, rfl, Fr.okp⟩
   exact tst_ok
 (first | refine cd_ rfl ?_ ?_ | refine ce_ rfl ?_ ?_ | refine cn_ rfl ?_ ?_ | refine cb_ rfl ?_ ?_) <;> intro ht11
 ·
  -- then
  refine CW.sr fun K12 hK12 => ?_
  refine WL.a rfl ?_
  refine WL.nil (hK12 _ _ ?_); try clear hK12
  refine CW.ret ⟨_, rfl, ?_⟩
  exact ⟨by rw [hval, rightX_alt, if_neg (by assumption), if_pos (by assumption)], (hx1.thenExt hx2)⟩
 refine CW.skip ?_
 refine hK10 _ _ ?_; try clear hK10
 refine CW.sr fun K13 hK13 => ?_
 refine WL.a rfl ?_
 refine WL.nil (hK13 _ _ ?_); try clear hK13
 refine CW.ret ⟨_, rfl, ?_⟩
 exact ⟨by rw [hval, rightX_alt, if_neg (by assumption), if_neg (by assumption)], (hx1.thenExt hx2)⟩
end Go.Proofs.YtfanmpbapabboaaGreatDoor
