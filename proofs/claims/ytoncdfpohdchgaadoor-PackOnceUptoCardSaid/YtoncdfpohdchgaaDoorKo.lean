/- What follows of the plain law of reading. No condition. -/
import Derived.Test.YtoncdfpohdchgaaDoorAl
import Derived.Test.YtoncdfpohdchgaaDoorPq
import Derived.Test.YtoncdfpohdchgaaDoorKg
set_option linter.unusedSimpArgs false
set_option linter.unusedVariables false
namespace Go.Pl
open Go.Fw
/-! ## No error is 0 -/
def Nz {α : Type} (f : Rdg α) : Prop := ∀ bs at_ e, f bs at_ = .error e → e ≠ 0
theorem Nz.bind {α β : Type} {f : Rdg α} {h : α → Rdg β} (h1 : Nz f) (h2 : ∀ x, Nz (h x)) : Nz (gbind f h) := fun bs at_ e he => by
  unfold gbind at he
  split at he
  · rename_i e' he'
    injection he with he; subst he
    exact h1 _ _ _ he'
  · exact h2 _ _ _ _ he
theorem Nz.pure {α : Type} {x : α} : Nz (fun _ at_ => .ok (x, at_)) := fun _ _ _ h => by cases h
theorem Nz.ite {α : Type} {f g : Rdg α} {c : Prop} [Decidable c] (h : Nz f) (k : Nz g) : Nz (fun bs at_ => if c then f bs at_ else g bs at_) := fun bs at_ e he => by
  by_cases hc : c
  · simp only [hc, if_true] at he; exact h _ _ _ he
  · simp only [hc, if_false] at he; exact k _ _ _ he
theorem Nz.guard {α : Type} {f : Rdg α} {c : Prop} [Decidable c] {k : Int} (hk : k ≠ 0) (h : Nz f) : Nz (fun bs at_ => if c then .error k else f bs at_) := fun bs at_ e he => by
  by_cases hc : c
  · simp only [hc, if_true] at he; injection he with he; subst he; exact hk
  · simp only [hc, if_false] at he; exact h _ _ _ he
theorem nz_num : Nz gnum := fun _ _ _ h => gnum_err h
theorem nz_text : Nz gtext := fun _ _ _ h => gtext_err h
theorem nz_dig : Nz gdig := fun bs at_ e h => by
  unfold gdig at h
  split at h
  · cases h
  · injection h with h; omega
theorem nz_byte : Nz gbyte := fun bs at_ e h => by
  unfold gbyte at h
  split at h
  · cases h
  · injection h with h; omega
theorem nz_op : Nz gop := by
  rw [gop_eq]
  exact nz_num.bind fun n => Nz.guard (by decide) ((Nz.ite nz_dig Nz.pure).bind fun d => (Nz.ite (nz_num.bind fun k => Nz.guard (by decide) Nz.pure) Nz.pure).bind fun k => (Nz.ite nz_byte Nz.pure).bind fun b => Nz.pure)
theorem nz_many {α : Type} {f : Rdg α} (h : Nz f) : ∀ k, Nz (fun bs at_ => gmany f bs k at_)
  | 0 => Nz.pure
  | k + 1 => by rw [gmany_succ]; exact h.bind fun x => (nz_many h k).bind fun xs => Nz.pure
theorem nz_com : Nz gcomR :=
  nz_num.bind fun n => Nz.guard (by decide) ((nz_many nz_dig n).bind fun ps => nz_text.bind fun au => nz_text.bind fun no => nz_num.bind fun m => Nz.guard (by decide) ((nz_many nz_op m).bind fun ops => Nz.pure))
theorem decI_err {b : List UInt8} {e : Int} (h : decI b = .error e) : e ≠ 0 := by
  unfold decI at h
  rw [gcom_eq] at h
  split at h
  · rename_i e' he
    injection h with h; subst h
    exact nz_com _ _ _ he
  · split at h
    · injection h with h; omega
    · split at h
      · rename_i hm; injection h with h; subst h; exact hm
      · cases h
theorem comB_pos (c : ComD) : 0 < (comB c).length := by
  have := vi_pos c.parents.length
  simp only [comB, List.length_append]; omega
theorem comB_len {c : ComD} (h : mayI c = 0) : (comB c).length ≤ 110000 := by
  have hm := mayI_ok h
  have h1 := hm.parents
  have h2 := hm.ops
  have h3 := hm.name
  have h4 := hm.note
  have l1 := vi_len9 (n := c.parents.length) (by omega)
  have l2 := vi_len9 (n := c.ops.length) (by omega)
  have l3 := vi_len9 (n := c.author.toList.length) (by rw [toList_length]; omega)
  have l4 := vi_len9 (n := c.note.toList.length) (by rw [toList_length]; omega)
  have f1 := flat_len (f := fun d : Dig => d.1) (k := 32) (l := c.parents) fun d _ => by rw [d.2]; exact Nat.le_refl _
  have f2 := flat_len (f := opB) (k := 51) (l := c.ops) fun x hx => opB_len (by have := (hm.n hx).2; omega)
  simp only [comB, textB, List.length_append]
  rw [toList_length] at *
  rw [toList_length] at *
  omega
end Go.Pl
namespace Go.Proofs.YtoncdfpohdchgaaDoor
open Go.RowKit Go.Fw Go.Pl
theorem dec_ok {b : List UInt8} (h : decE b = 0) : mayI (decC b) = 0 ∧ comB (decC b) = b := by
  unfold decE at h
  split at h
  · omega
  rename_i hl
  split at h
  · rename_i e he; exact absurd h (decI_err he)
  · rename_i c hc
    have : decC b = c := by rw [decC, if_neg hl, hc]
    rw [this]
    exact dec_just hc
theorem dec_no {b : List UInt8} (h : decE b ≠ 0) : decC b = nilC := by
  unfold decE at h
  unfold decC
  split
  · rfl
  rename_i hl
  rw [if_neg hl] at h
  split
  · rfl
  · rename_i c hc
    rw [hc] at h
    exact absurd rfl h
theorem sameB_iff {a b : ComD} : sameB a b = true ↔ a.parents = b.parents ∧ a.author = b.author ∧ a.note = b.note ∧ a.ops = b.ops := by
  have e : ∀ x y : ByteArray, x.toList = y.toList ↔ x = y := fun x y => ⟨fun h => by rw [← bs_of x, ← bs_of y, h], fun h => by rw [h]⟩
  simp [sameB, e]
  constructor
  · rintro ⟨⟨⟨h1, h2⟩, h3⟩, h4⟩; exact ⟨h1, h2, h3, h4⟩
  · rintro ⟨h1, h2, h3, h4⟩; exact ⟨⟨⟨h1, h2⟩, h3⟩, h4⟩
theorem sameB_eq {a b : ComD} : sameB a b = true ↔ a = b := by
  rw [sameB_iff]
  cases a; cases b; simp
theorem sameB_comm (a b : ComD) : sameB a b = sameB b a := by
  rw [Bool.eq_iff_iff, sameB_eq, sameB_eq]
  exact eq_comm
theorem sameB_self (a : ComD) : sameB a a = true := sameB_eq.2 rfl
theorem same_com {a b : ComD} (ha : mayI a = 0) (hb : mayI b = 0) : (comB a == comB b) = sameB a b := by
  rw [Bool.eq_iff_iff, sameB_eq, beq_iff_eq]
  exact ⟨com_inj ha hb, fun h => by rw [h]⟩
theorem decE_com {c : ComD} (h : mayI c = 0) : decE (comB c) = 0 ∧ decC (comB c) = c := by
  have hl := comB_len h
  rw [decE, decC, if_neg (by omega), if_neg (by omega), dec_com h]
  exact ⟨rfl, rfl⟩
theorem decE_head {c : ComD} (h : mayI c = 0) {k : Nat} (hk : k < (comB c).length) : decE ((comB c).take k) = 8 := by
  have hl := comB_len h
  rw [decE, if_neg (by rw [List.length_take]; omega), dec_head h hk]
theorem decE_tail {c : ComD} (h : mayI c = 0) (x : UInt8) : decE (comB c ++ [x]) = 7 := by
  have hl := comB_len h
  rw [decE, if_neg (by rw [List.length_append]; simp; omega), dec_tail h x]
end Go.Proofs.YtoncdfpohdchgaaDoor
namespace Go.Proofs.YtoncdfpohdchgaaDoor
open Go.RowKit Go.Fw Go.Pl
theorem decC_max {b : List UInt8} : (decC b).author.size ≤ maxLen ∧ (decC b).note.size ≤ maxLen := by
  by_cases h : decE b = 0
  · have hm := mayI_ok (dec_ok h).1
    have h1 := hm.name
    have h2 := hm.note
    unfold maxLen
    omega
  · rw [dec_no h]
    unfold maxLen
    exact ⟨by decide, by decide⟩
end Go.Proofs.YtoncdfpohdchgaaDoor
