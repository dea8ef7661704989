/- A commit's bytes: wire.put, wire.Num, wire.Text, commit.num, commit.op, commit.Encode, walked. No condition. -/
import Derived.Test.YtecolkngbcgmcaaAp
import Derived.Test.YtecolkngbcgmcaaPe
import Derived.Test.YtecolkngbcgmcaaMy
set_option linter.unusedSimpArgs false
set_option linter.unusedVariables false
namespace Go.Proofs.Ytecolkngbcgmcaa
open Go.RowKit Go.Fw Go.Pl
theorem u8_or (n : Nat) : IntKind.u8.wrap ((BitVec.ofInt IntKind.u8.bits (IntKind.u8.wrap (n : Int)) ||| BitVec.ofInt IntKind.u8.bits 128).toNat : Int) = ((UInt8.ofNat (n % 128 + 128)).toNat : Int) := by
  rw [show IntKind.u8.wrap (n : Int) = (((n % 256 : Nat)) : Int) by simp [IntKind.wrap, IntKind.bits, IntKind.signed]]
  have h : ∀ m, m < 256 → IntKind.u8.wrap ((BitVec.ofInt IntKind.u8.bits ((m : Nat) : Int) ||| BitVec.ofInt IntKind.u8.bits 128).toNat : Int) = ((UInt8.ofNat (m % 128 + 128)).toNat : Int) := by decide +kernel
  rw [h (n % 256) (by omega), Nat.mod_mod_of_dvd _ (by decide)]
theorem shr7 (n : Nat) : ((n : Int)).fdiv (2 ^ (min (7 : Int).toNat IntKind.i64.bits)) = ((n / 128 : Nat) : Int) := by
  show ((n : Int)).fdiv 128 = _
  rw [Int.fdiv_eq_ediv_of_nonneg _ (by decide)]
  rfl
theorem or_1 : IntKind.i64.wrap ((BitVec.ofInt IntKind.i64.bits 0 ||| BitVec.ofInt IntKind.i64.bits 1).toNat : Int) = 1 := by decide
theorem or_2 (c : Prop) [Decidable c] : IntKind.i64.wrap ((BitVec.ofInt IntKind.i64.bits (if c then 1 else 0) ||| BitVec.ofInt IntKind.i64.bits 2).toNat : Int) = (if c then 1 else 0) + 2 := by by_cases h : c <;> simp only [h, if_true, if_false] <;> decide
theorem or_4 (c d : Prop) [Decidable c] [Decidable d] : IntKind.i64.wrap ((BitVec.ofInt IntKind.i64.bits ((if c then 1 else 0) + (if d then 2 else 0)) ||| BitVec.ofInt IntKind.i64.bits 4).toNat : Int) = (if c then 1 else 0) + (if d then 2 else 0) + 4 := by by_cases h : c <;> by_cases h' : d <;> simp only [h, h', if_true, if_false] <;> decide
theorem or_8 (c d : Prop) [Decidable c] [Decidable d] : IntKind.i64.wrap ((BitVec.ofInt IntKind.i64.bits ((if c then 1 else 0) + (if d then 2 else 0)) ||| BitVec.ofInt IntKind.i64.bits 8).toNat : Int) = (if c then 1 else 0) + (if d then 2 else 0) + 8 := by by_cases h : c <;> by_cases h' : d <;> simp only [h, h', if_true, if_false] <;> decide
theorem or_own {x : OpD} (h : x.at_.own = true) : IntKind.i64.wrap ((BitVec.ofInt IntKind.i64.bits ((if x.kind = 2 then 1 else 0) + (if x.left = true then 2 else 0)) ||| BitVec.ofInt IntKind.i64.bits 4).toNat : Int) = flagI x := by rw [or_4, flagI, if_pos h]
theorem or_far {x : OpD} (h : x.at_.own = false) (h' : rootB x.at_ = false) : IntKind.i64.wrap ((BitVec.ofInt IntKind.i64.bits ((if x.kind = 2 then 1 else 0) + (if x.left = true then 2 else 0)) ||| BitVec.ofInt IntKind.i64.bits 8).toNat : Int) = flagI x := by rw [or_8, flagI, h, h']; rfl
theorem or_root {x : OpD} (h : x.at_.own = false) (h' : rootB x.at_ = true) : (if x.kind = 2 then 1 else 0) + (if x.left = true then 2 else 0) = flagI x := by rw [flagI, h, h']; exact (Int.add_zero _).symm
theorem flag_lt (x : OpD) : flagI x < 9223372036854775808 := by have := flagI_range x; omega
theorem flag_len (x : OpD) : (numB (flagI x)).length ≤ 9 := numB_len (flag_lt x)

end Go.Proofs.Ytecolkngbcgmcaa
