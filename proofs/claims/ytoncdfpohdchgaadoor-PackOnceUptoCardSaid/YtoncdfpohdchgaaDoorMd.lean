/- Digests as a map's keys. No condition. -/
import Derived.Test.YtoncdfpohdchgaaDoorMp
import Derived.Test.YtoncdfpohdchgaaDoorTy
import Derived.DeepKeys3
set_option linter.unusedSimpArgs false
set_option linter.unusedVariables false
namespace Go.Fw
open Go.RowKit
theorem mapM_some {α β : Type} {f : α → Option β} : ∀ {l : List α}, (∀ x ∈ l, ∃ y, f x = some y) → ∃ ys, l.mapM f = some ys
  | [], _ => ⟨[], rfl⟩
  | x :: r, h => by
    obtain ⟨y, hy⟩ := h x (by simp)
    obtain ⟨ys, hys⟩ := mapM_some (l := r) fun z hz => h z (by simp [hz])
    exact ⟨y :: ys, by simp [List.mapM_cons, hy, hys]⟩
theorem sameBits_self {n : Nat} : ∀ {cs : List Value}, (∀ u ∈ cs, Instr.sameBits n u u = true) → Instr.sameBits (n + 1) (.agg cs.toArray) (.agg cs.toArray) = true := by
  intro cs h
  simp only [Instr.sameBits, beq_self_eq_true, Bool.true_and]
  rw [List.all_eq_true]
  rintro ⟨x, y⟩ hp
  have hxy : x = y ∧ x ∈ cs := by
    obtain ⟨i, hi⟩ := List.mem_iff_getElem?.1 hp
    rw [List.getElem?_zip_eq_some] at hi
    obtain ⟨h1, h2⟩ := hi
    exact ⟨Option.some.inj (h1.symm.trans h2), List.mem_of_getElem? h1⟩
  obtain ⟨rfl, hx⟩ := hxy
  exact h x hx
end Go.Fw
namespace Go.Proofs.YtoncdfpohdchgaaDoor
open Go.RowKit Go.Fw
theorem cells_u8 : Tryd.prog.cellsOf 5 = 1 := by kernel_rfl
theorem cells_dig : Tryd.prog.cellsOf 31 = 32 := by kernel_rfl
theorem keyLits_u8 (D : Nat) (b : UInt8) : Tryd.prog.keyLits (D + 1) 5 [bc b] = some [.int .u8 (b.toNat : Int)] := by
  have hw : (Lit.int .u8 (b.toNat : Int)).wf = true := by
    have := b.toNat_lt
    simp only [Lit.wf, IntKind.min, IntKind.max, IntKind.bits, IntKind.signed]
    simp
    omega
  simp only [Program.keyLits, Tryd.underlying5, bc, hw]
  simp
theorem keyLits_dig (D : Nat) (d : Dig) : ∃ la, Tryd.prog.keyLits (D + 2) 31 (digC d) = some la := by
  obtain ⟨ys, hys⟩ := mapM_some (l := List.range 32) (f := fun i => Tryd.prog.keyLits (D + 1) 5 (((digC d).drop (i * 1)).take 1)) (by
    intro i hi
    rw [List.mem_range] at hi
    have hd := d.2
    have : ((digC d).drop (i * 1)).take 1 = [bc (d.1[i]'(by omega))] := by
      rw [Nat.mul_one, digC, bytesC, ← List.map_drop, List.drop_eq_getElem_cons (by omega)]
      rfl
    rw [this]
    exact ⟨_, keyLits_u8 D _⟩)
  refine ⟨ys.flatten, ?_⟩
  have e : Tryd.prog.keyLits ((D + 1) + 1) 31 (digC d) = ((List.range 32).mapM fun i => Tryd.prog.keyLits (D + 1) 5 (((digC d).drop (i * 1)).take 1)).map List.flatten := by
    conv => lhs; unfold Program.keyLits
    simp only [Tryd.underlying31, cells_dig, cells_u8, digC_length, if_true]
  rw [show D + 2 = (D + 1) + 1 from rfl, e, hys]
  rfl
theorem keyDig : KeyEq Tryd.prog 31 (fun d : Dig => digV d) where
  eq w a b := eqIn_dig 9998 a b w
  check w em a := by
    obtain ⟨la, hla⟩ := keyLits_dig 3 a
    exact run_checkKey_deep em 9997 3 31 (by kernel_rfl) w 5 (digV a) la (by simp only [Value.formed, Tryd.underlying31, cells_dig]; simp [digC_length]) (by simpa [Value.cells] using hla)
  wide := by rw [Tryd.underlying31]
  same a := sameBits_self (n := 9999) fun u hu => by
    simp only [digC, bytesC, List.mem_map] at hu
    obtain ⟨b, _, rfl⟩ := hu
    simp [bc, Instr.sameBits]
end Go.Proofs.YtoncdfpohdchgaaDoor
