/- The plain law of a commit's bytes, there and back: what is written is read, with bytes missing it ends too early, what is read was written so. No condition; no program. -/
import Derived.Test.YtoncdfpohdchgaaDoorPe
set_option linter.unusedSimpArgs false
set_option linter.unusedVariables false
namespace Go.Pl
open Go.Fw
/-- What a reader of bytes is: it stands at a place, and hands back a value and the place behind it. -/
abbrev Rdg (α : Type) := List UInt8 → Nat → Except Int (α × Nat)
/-- The bytes e are read as x; with some of the last ones missing they end too early. -/
def Rds {α : Type} (f : Rdg α) (x : α) (e : List UInt8) : Prop :=
  (∀ pre post : List UInt8, f (pre ++ (e ++ post)) pre.length = .ok (x, pre.length + e.length)) ∧ ∀ (pre : List UInt8) (k : Nat), k < e.length → f (pre ++ e.take k) pre.length = .error 8
/-- Whatever is read was written so. -/
def Snd {α : Type} (f : Rdg α) (E : α → List UInt8 → Prop) : Prop :=
  ∀ (bs : List UInt8) (at_ : Nat) (x : α) (a : Nat), at_ ≤ bs.length → f bs at_ = .ok (x, a) → at_ ≤ a ∧ a ≤ bs.length ∧ E x ((bs.drop at_).take (a - at_))
def gbind {α β : Type} (f : Rdg α) (h : α → Rdg β) : Rdg β := fun bs at_ => match f bs at_ with
  | .error e => .error e
  | .ok (x, a) => h x bs a
theorem gbind_ok {α β : Type} {f : Rdg α} {h : α → Rdg β} {bs : List UInt8} {at_ a : Nat} {x : α} (e : f bs at_ = .ok (x, a)) : gbind f h bs at_ = h x bs a := by simp only [gbind, e]
theorem gbind_err {α β : Type} {f : Rdg α} {h : α → Rdg β} {bs : List UInt8} {at_ : Nat} {k : Int} (e : f bs at_ = .error k) : gbind f h bs at_ = .error k := by simp only [gbind, e]
theorem Rds.bind {α β : Type} {f : Rdg α} {h : α → Rdg β} {x : α} {y : β} {e1 e2 : List UInt8} (h1 : Rds f x e1) (h2 : Rds (h x) y e2) : Rds (gbind f h) y (e1 ++ e2) := by
  constructor
  · intro pre post
    have a1 := h1.1 pre (e2 ++ post)
    have a2 := h2.1 (pre ++ e1) post
    rw [List.append_assoc e1 e2 post, gbind_ok a1]
    rw [List.append_assoc, List.length_append] at a2
    rw [a2, List.length_append, Nat.add_assoc]
  · intro pre k hk
    rcases Nat.lt_or_ge k e1.length with hlt | hge
    · rw [List.take_append_of_le_length (by omega)]
      exact gbind_err (h1.2 pre k hlt)
    · have a1 := h1.1 pre (e2.take (k - e1.length))
      have ht : (e1 ++ e2).take k = e1 ++ e2.take (k - e1.length) := by rw [List.take_append, List.take_of_length_le hge]
      rw [ht, gbind_ok a1]
      have a2 := h2.2 (pre ++ e1) (k - e1.length) (by rw [List.length_append] at hk; omega)
      rw [List.append_assoc, List.length_append] at a2
      exact a2
theorem Rds.pure {α : Type} {x : α} : Rds (fun _ at_ => .ok (x, at_)) x [] := ⟨fun _ _ => rfl, fun _ k hk => by simp at hk⟩
theorem Rds.guard {α : Type} {f : Rdg α} {x : α} {e : List UInt8} {c : Prop} [Decidable c] {k : Int} (hc : ¬ c) (h : Rds f x e) : Rds (fun bs at_ => if c then .error k else f bs at_) x e := by
  constructor
  · intro pre post; simp only [hc, if_false]; exact h.1 pre post
  · intro pre j hj; simp only [hc, if_false]; exact h.2 pre j hj
theorem Rds.ite_pos {α : Type} {f g : Rdg α} {x : α} {e : List UInt8} {c : Prop} [Decidable c] (hc : c) (h : Rds f x e) : Rds (fun bs at_ => if c then f bs at_ else g bs at_) x e := by
  constructor
  · intro pre post; simp only [hc, if_true]; exact h.1 pre post
  · intro pre j hj; simp only [hc, if_true]; exact h.2 pre j hj
theorem Rds.ite_neg {α : Type} {f g : Rdg α} {x : α} {e : List UInt8} {c : Prop} [Decidable c] (hc : ¬ c) (h : Rds g x e) : Rds (fun bs at_ => if c then f bs at_ else g bs at_) x e := by
  constructor
  · intro pre post; simp only [hc, if_false]; exact h.1 pre post
  · intro pre j hj; simp only [hc, if_false]; exact h.2 pre j hj
theorem cut_join (bs : List UInt8) {a b c : Nat} (h1 : a ≤ b) (h2 : b ≤ c) : (bs.drop a).take (c - a) = (bs.drop a).take (b - a) ++ (bs.drop b).take (c - b) := by
  have e : c - a = (b - a) + (c - b) := by omega
  rw [e, List.take_add, List.drop_drop]
  congr 3
  omega
theorem Snd.bind {α β : Type} {f : Rdg α} {h : α → Rdg β} {E1 : α → List UInt8 → Prop} {E2 : α → β → List UInt8 → Prop} (h1 : Snd f E1) (h2 : ∀ x, Snd (h x) (E2 x)) :
    Snd (gbind f h) (fun y l => ∃ x l1 l2, l = l1 ++ l2 ∧ E1 x l1 ∧ E2 x y l2) := by
  intro bs at_ y a ha hf
  unfold gbind at hf
  split at hf
  · cases hf
  · rename_i x b hb
    obtain ⟨a1, a2, a3⟩ := h1 bs at_ x b ha hb
    obtain ⟨b1, b2, b3⟩ := h2 x bs b y a a2 hf
    exact ⟨by omega, b2, x, _, _, cut_join bs a1 b1, a3, b3⟩
theorem Snd.pure {α : Type} {x : α} : Snd (fun _ at_ => .ok (x, at_)) (fun y l => y = x ∧ l = []) := by
  intro bs at_ y a ha hf
  injection hf with hf; injection hf with h1 h2
  subst h1; subst h2
  exact ⟨Nat.le_refl _, ha, rfl, by simp⟩
theorem Snd.guard {α : Type} {f : Rdg α} {E : α → List UInt8 → Prop} {c : Prop} [Decidable c] {k : Int} (h : Snd f E) : Snd (fun bs at_ => if c then .error k else f bs at_) (fun x l => ¬ c ∧ E x l) := by
  intro bs at_ y a ha hf
  by_cases hc : c
  · simp only [hc, if_true] at hf; cases hf
  · simp only [hc, if_false] at hf
    obtain ⟨h1, h2, h3⟩ := h bs at_ y a ha hf
    exact ⟨h1, h2, hc, h3⟩
theorem Snd.ite {α : Type} {f g : Rdg α} {E F : α → List UInt8 → Prop} {c : Prop} [Decidable c] (h : Snd f E) (k : Snd g F) : Snd (fun bs at_ => if c then f bs at_ else g bs at_) (fun x l => (c ∧ E x l) ∨ (¬ c ∧ F x l)) := by
  intro bs at_ y a ha hf
  by_cases hc : c
  · simp only [hc, if_true] at hf
    obtain ⟨h1, h2, h3⟩ := h bs at_ y a ha hf
    exact ⟨h1, h2, .inl ⟨hc, h3⟩⟩
  · simp only [hc, if_false] at hf
    obtain ⟨h1, h2, h3⟩ := k bs at_ y a ha hf
    exact ⟨h1, h2, .inr ⟨hc, h3⟩⟩
theorem Snd.mono {α : Type} {f : Rdg α} {E F : α → List UInt8 → Prop} (h : Snd f E) (hm : ∀ x l, E x l → F x l) : Snd f F := fun bs at_ x a ha hf => by
  obtain ⟨h1, h2, h3⟩ := h bs at_ x a ha hf
  exact ⟨h1, h2, hm _ _ h3⟩

/-! ## Numbers -/
theorem toNat_small {n : Nat} (h : n < 256) : (UInt8.ofNat n).toNat = n := by rw [UInt8.toNat_ofNat', Nat.mod_eq_of_lt h]
theorem gn_vi : ∀ (k n i s : Nat) (r : List UInt8), n < 128 ^ (k + 1) → i + k + 1 ≤ 9 → (0 < n ∨ i = 0) → gn i s (vi n ++ r) = .ok (s + n * 128 ^ i, i + (vi n).length)
  | k, n, i, s, r, hn, hi, hz => by
    by_cases h1 : n < 128
    · rw [vi_lt h1]
      have ht := toNat_small (n := n) (by omega)
      simp only [List.cons_append, List.nil_append, gn, ht]
      rw [if_neg (by omega), if_neg (by omega), if_neg (by omega), Nat.mod_eq_of_lt h1]
      rfl
    · rw [vi_ge h1]
      have ht := toNat_small (n := n % 128 + 128) (by omega)
      cases k with
      | zero => simp at hn; omega
      | succ k =>
        have h2 : n / 128 < 128 ^ (k + 1) := by
          rw [Nat.pow_succ] at hn
          exact Nat.div_lt_of_lt_mul (by rw [Nat.mul_comm]; exact hn)
        simp only [List.cons_append, gn, ht]
        rw [if_neg (by omega), if_neg (by omega), if_pos (by omega), gn_vi k (n / 128) (i + 1) _ r h2 (by omega) (by omega)]
        have e : s + (n % 128 + 128) % 128 * 128 ^ i + n / 128 * 128 ^ (i + 1) = s + n * 128 ^ i := by
          have : (n % 128 + 128) % 128 = n % 128 := by omega
          rw [this, Nat.pow_succ, Nat.add_assoc, ← Nat.mul_assoc, Nat.mul_right_comm, ← Nat.add_mul]
          congr 2
          omega
        rw [e, List.length_cons]
        congr 2
        omega
theorem gn_head : ∀ (k n i s j : Nat), n < 128 ^ (k + 1) → i + k + 1 ≤ 9 → j < (vi n).length → gn i s ((vi n).take j) = .error 8
  | k, n, i, s, j, hn, hi, hj => by
    cases j with
    | zero => simp [gn]
    | succ j =>
      by_cases h1 : n < 128
      · rw [vi_lt h1] at hj; simp at hj
      · rw [vi_ge h1] at hj ⊢
        have ht := toNat_small (n := n % 128 + 128) (by omega)
        cases k with
        | zero => simp at hn; omega
        | succ k =>
          have h2 : n / 128 < 128 ^ (k + 1) := by
            rw [Nat.pow_succ] at hn
            exact Nat.div_lt_of_lt_mul (by rw [Nat.mul_comm]; exact hn)
          simp only [List.take_succ_cons, gn, ht]
          rw [if_neg (by omega), if_neg (by omega), if_pos (by omega)]
          exact gn_head k (n / 128) (i + 1) _ j h2 (by omega) (by simpa using hj)
theorem rds_num {n : Nat} (h : n < 9223372036854775808) : Rds gnum n (vi n) := by
  have h9 : n < 128 ^ (8 + 1) := by simpa using h
  constructor
  · intro pre post
    rw [gnum, List.drop_left, gn_vi 8 n 0 0 post h9 (by omega) (.inr rfl)]
    simp
  · intro pre k hk
    rw [gnum, List.drop_left, gn_head 8 n 0 0 k h9 (by omega) hk]
theorem gn_snd : ∀ (l : List UInt8) (i s m k : Nat), i < 9 → gn i s l = .ok (m, k) → ∃ n, m = s + n * 128 ^ i ∧ l.take (k - i) = vi n ∧ i < k ∧ k ≤ i + l.length ∧ (0 < n ∨ i = 0) ∧ n < 128 ^ (9 - i)
  | [], i, s, m, k, _, h => by cases h
  | x :: r, i, s, m, k, hi, h => by
    have hx := x.toNat_lt
    rw [gn] at h
    split at h
    · cases h
    rename_i h1
    split at h
    · cases h
    rename_i h2
    split at h
    · rename_i h3
      obtain ⟨n, rfl, hv, hik, hk, hz, hb⟩ := gn_snd r (i + 1) _ m k (by omega) h
      refine ⟨x.toNat % 128 + n * 128, ?_, ?_, by omega, by simp only [List.length_cons]; omega, .inl (by omega), ?_⟩
      · rw [Nat.pow_succ, Nat.add_mul, ← Nat.mul_assoc, Nat.mul_right_comm n 128 (128 ^ i), Nat.add_assoc]
      · rw [vi_ge (by omega)]
        have e1 : (x.toNat % 128 + n * 128) % 128 + 128 = x.toNat := by omega
        have e2 : (x.toNat % 128 + n * 128) / 128 = n := by omega
        rw [e1, e2, UInt8.ofNat_toNat, ← hv]
        obtain ⟨j, hj⟩ : ∃ j, k - i = j + 1 := ⟨k - i - 1, by omega⟩
        rw [hj, List.take_succ_cons]
        congr 2
        omega
      · obtain ⟨q, hq⟩ : ∃ q, 9 - i = q + 1 := ⟨9 - i - 1, by omega⟩
        have hq2 : 9 - (i + 1) = q := by omega
        rw [hq2] at hb
        rw [hq, Nat.pow_succ]
        omega
    · rename_i h3
      injection h with h; injection h with e1 e2
      subst e1; subst e2
      have hm : x.toNat % 128 = x.toNat := Nat.mod_eq_of_lt (by omega)
      refine ⟨x.toNat, by rw [hm], ?_, by omega, by simp only [List.length_cons]; omega, by omega, ?_⟩
      · rw [vi_lt (by omega), UInt8.ofNat_toNat, show i + 1 - i = 1 by omega]; rfl
      · have : 128 ^ 1 ≤ 128 ^ (9 - i) := Nat.pow_le_pow_right (by decide) (by omega)
        omega
theorem snd_num : Snd gnum (fun n l => l = vi n ∧ n < 9223372036854775808) := by
  intro bs at_ x a ha h
  unfold gnum at h
  split at h
  · cases h
  rename_i n k hk
  injection h with h; injection h with h1 h2
  subst h1; subst h2
  obtain ⟨n', rfl, hv, h0, hl, _, hb⟩ := gn_snd _ _ _ _ _ (by omega) hk
  rw [List.length_drop] at hl
  refine ⟨by omega, by omega, ?_, by simpa using hb⟩
  rw [show at_ + k - at_ = k - 0 by omega, hv]
  simp

/-! ## Digests, texts, lists -/
theorem rds_dig (d : Dig) : Rds gdig d d.1 := by
  have hd := d.2
  constructor
  · intro pre post
    have hlen : pre.length + 32 ≤ (pre ++ (d.1 ++ post)).length := by simp only [List.length_append]; omega
    rw [gdig, dif_pos hlen]
    have e : ((pre ++ (d.1 ++ post)).drop pre.length).take 32 = d.1 := by rw [List.drop_left, List.take_append_of_le_length (by omega), List.take_of_length_le (by omega)]
    congr 1
    rw [hd]
    congr 1
    exact Subtype.ext e
  · intro pre k hk
    rw [gdig, dif_neg (by simp only [List.length_append, List.length_take]; omega)]
theorem snd_dig : Snd gdig (fun d l => l = d.1) := by
  intro bs at_ x a ha h
  unfold gdig at h
  split at h
  · rename_i hl
    injection h with h; injection h with h1 h2
    subst h1; subst h2
    exact ⟨by omega, hl, by rw [show at_ + 32 - at_ = 32 by omega]⟩
  · cases h
def gtake (n : Nat) : Rdg (List UInt8) := fun bs at_ => if bs.length < at_ + n then .error 8 else .ok ((bs.drop at_).take n, at_ + n)
theorem rds_take (t : List UInt8) : Rds (gtake t.length) t t := by
  constructor
  · intro pre post
    rw [gtake, if_neg (by simp only [List.length_append]; omega), List.drop_left, List.take_append_of_le_length (Nat.le_refl _), List.take_of_length_le (Nat.le_refl _)]
  · intro pre k hk
    rw [gtake, if_pos (by simp only [List.length_append, List.length_take]; omega)]
theorem snd_take (n : Nat) : Snd (gtake n) (fun t l => l = t ∧ t.length = n) := by
  intro bs at_ x a ha h
  unfold gtake at h
  split at h
  · cases h
  rename_i hl
  injection h with h; injection h with h1 h2
  subst h1; subst h2
  exact ⟨by omega, by omega, by rw [show at_ + n - at_ = n by omega], by rw [List.length_take, List.length_drop]; omega⟩
theorem gtext_bind : gtext = gbind gnum fun n bs at_ => if 131072 < n then .error 3 else gtake n bs at_ := by
  funext bs at_
  unfold gtext gbind gtake
  cases gnum bs at_ <;> rfl
theorem rds_text {t : List UInt8} (h : t.length ≤ 131072) : Rds gtext t (textB t) := by
  rw [gtext_bind]
  exact (rds_num (by omega)).bind (Rds.guard (by omega) (rds_take t))
theorem snd_text : Snd gtext (fun t l => l = textB t ∧ t.length ≤ 131072) := by
  rw [gtext_bind]
  refine (snd_num.bind fun n => (snd_take n).guard).mono ?_
  rintro t l ⟨n, l1, l2, rfl, ⟨rfl, _⟩, h1, rfl, rfl⟩
  exact ⟨rfl, by omega⟩
theorem gmany_succ {α : Type} (f : Rdg α) (k : Nat) : (fun bs at_ => gmany f bs (k + 1) at_) = gbind f fun x => gbind (fun bs at_ => gmany f bs k at_) fun xs _ at_ => .ok (x :: xs, at_) := by
  funext bs at_
  unfold gbind
  rw [gmany]
  cases f bs at_ with
  | error e => rfl
  | ok p =>
    obtain ⟨x, a⟩ := p
    simp only []
    cases gmany f bs k a <;> rfl
theorem rds_many {α : Type} {f : Rdg α} {enc : α → List UInt8} : ∀ {xs : List α}, (∀ x ∈ xs, Rds f x (enc x)) → Rds (fun bs at_ => gmany f bs xs.length at_) xs ((xs.map enc).flatten)
  | [], _ => Rds.pure
  | x :: xs, h => by
    rw [List.length_cons, gmany_succ]
    have h2 := rds_many (xs := xs) fun y hy => h y (by simp [hy])
    have h3 := (h x (by simp)).bind (h := fun x => gbind (fun bs at_ => gmany f bs xs.length at_) fun xs _ at_ => .ok (x :: xs, at_)) (h2.bind (h := fun ys _ at_ => .ok (x :: ys, at_)) Rds.pure)
    simpa using h3
theorem snd_many {α : Type} {f : Rdg α} {enc : α → List UInt8} {Q : α → Prop} (h : Snd f (fun x l => l = enc x ∧ Q x)) : ∀ k, Snd (fun bs at_ => gmany f bs k at_) (fun xs l => l = (xs.map enc).flatten ∧ xs.length = k ∧ ∀ x ∈ xs, Q x)
  | 0 => Snd.pure.mono fun x l ⟨h1, h2⟩ => by subst h1; subst h2; exact ⟨rfl, rfl, fun x hx => by simp at hx⟩
  | k + 1 => by
    rw [gmany_succ]
    refine (h.bind (E2 := fun x ys l => ∃ xs l1 l2, l = l1 ++ l2 ∧ (l1 = (xs.map enc).flatten ∧ xs.length = k ∧ ∀ x ∈ xs, Q x) ∧ (ys = x :: xs ∧ l2 = [])) fun x => (snd_many h k).bind fun xs => Snd.pure).mono ?_
    rintro ys l ⟨x, l1, l2, rfl, ⟨rfl, hq⟩, xs, l3, l4, rfl, ⟨rfl, rfl, hqs⟩, rfl, rfl⟩
    refine ⟨by simp, rfl, fun y hy => ?_⟩
    rcases List.mem_cons.1 hy with rfl | hy
    · exact hq
    · exact hqs y hy
end Go.Pl
namespace Go.Pl
open Go.Fw
/-! ## Operations -/
def gbyte : Rdg UInt8 := fun bs at_ => match bs[at_]? with
  | some b => .ok (b, at_ + 1)
  | none => .error 8
theorem rds_byte (b : UInt8) : Rds gbyte b [b] := by
  constructor
  · intro pre post
    have : (pre ++ ([b] ++ post))[pre.length]? = some b := by simp
    simp only [gbyte, this]; rfl
  · intro pre k hk
    have h0 : k = 0 := by simpa using hk
    subst h0
    have : (pre ++ [b].take 0)[pre.length]? = none := by simp
    simp only [gbyte, this]
theorem snd_byte : Snd gbyte (fun b l => l = [b]) := by
  intro bs at_ x a ha h
  unfold gbyte at h
  split at h
  · rename_i b hb
    injection h with h; injection h with h1 h2
    subst h1; subst h2
    have hlt := (List.getElem?_eq_some_iff.1 hb).1
    refine ⟨by omega, hlt, ?_⟩
    rw [show at_ + 1 - at_ = 1 by omega, List.drop_eq_getElem_cons hlt, (List.getElem?_eq_some_iff.1 hb).2]
    rfl
  · cases h
def gopR : Rdg OpD := gbind gnum fun n bs at_ => if 12 ≤ n then .error 7 else gbind (fun bs at_ => if 8 ≤ n then gdig bs at_ else .ok (Dig.zero, at_)) (fun d =>
  gbind (fun bs at_ => if 4 ≤ n then gbind gnum (fun k bs at_ => if k = 0 then .error 7 else .ok (k, at_)) bs at_ else .ok (0, at_)) fun k =>
  gbind (fun bs at_ => if n % 2 = 0 then gbyte bs at_ else .ok (0, at_)) fun b _ at_ => .ok (⟨if n % 2 = 0 then 1 else 2, decide (n / 2 % 2 = 1), ⟨decide (n / 4 = 1), d, (k : Int)⟩, b⟩, at_)) bs at_
theorem gop_eq : gop = gopR := by
  funext bs at_
  unfold gop gopR gbind gopD gopN gopB gbyte
  cases gnum bs at_ with
  | error e => rfl
  | ok p =>
    obtain ⟨n, a⟩ := p
    simp only []
    by_cases h12 : 12 ≤ n
    · simp only [h12, if_true]
    · simp only [h12, if_false]
      by_cases h8 : 8 ≤ n
      · have h4 : 4 ≤ n := by omega
        simp only [h8, h4, if_true]
        cases gdig bs a with
        | error e => rfl
        | ok q =>
          obtain ⟨d, a2⟩ := q
          simp only []
          cases gnum bs a2 with
          | error e => rfl
          | ok r =>
            obtain ⟨k, a3⟩ := r
            simp only []
            by_cases hk : k = 0
            · simp only [hk, if_true]
            · simp only [hk, if_false]
              by_cases h2 : n % 2 = 0
              · simp only [h2, if_true]
                cases bs[a3]? <;> rfl
              · simp only [h2, if_false]
      · simp only [h8, if_false]
        by_cases h4 : 4 ≤ n
        · simp only [h4, if_true]
          cases gnum bs a with
          | error e => rfl
          | ok r =>
            obtain ⟨k, a3⟩ := r
            simp only []
            by_cases hk : k = 0
            · simp only [hk, if_true]
            · simp only [hk, if_false]
              by_cases h2 : n % 2 = 0
              · simp only [h2, if_true]
                cases bs[a3]? <;> rfl
              · simp only [h2, if_false]
        · simp only [h4, if_false]
          by_cases h2 : n % 2 = 0
          · simp only [h2, if_true]
            cases bs[a]? <;> rfl
          · simp only [h2, if_false]
def eD (n : Nat) (d : Dig) : List UInt8 := if 8 ≤ n then d.1 else []
def eN (n k : Nat) : List UInt8 := if 4 ≤ n then vi k else []
def eB (n : Nat) (b : UInt8) : List UInt8 := if n % 2 = 0 then [b] else []
def opOf (n : Nat) (d : Dig) (k : Nat) (b : UInt8) : OpD := ⟨if n % 2 = 0 then 1 else 2, decide (n / 2 % 2 = 1), ⟨decide (n / 4 = 1), d, (k : Int)⟩, b⟩
theorem rds_op {n k : Nat} {d : Dig} {b : UInt8} (hn : n < 12) (hd : 8 ≤ n ∨ d = Dig.zero) (hk : k < 9223372036854775808) (h0 : 4 ≤ n → k ≠ 0) (h4 : ¬ 4 ≤ n → k = 0) (hb : n % 2 = 0 ∨ b = 0) :
    Rds gop (opOf n d k b) (vi n ++ (eD n d ++ (eN n k ++ (eB n b ++ [])))) := by
  rw [gop_eq]
  refine (rds_num (by omega)).bind (Rds.guard (by omega) (Rds.bind (x := d) ?_ (Rds.bind (x := k) ?_ (Rds.bind (x := b) ?_ Rds.pure))))
  · unfold eD
    by_cases h : 8 ≤ n
    · rw [if_pos h]; exact Rds.ite_pos h (rds_dig d)
    · rw [if_neg h]
      rcases hd with hd | rfl
      · exact absurd hd h
      · exact Rds.ite_neg (f := gdig) h Rds.pure
  · unfold eN
    by_cases h : 4 ≤ n
    · rw [if_pos h]
      have := (rds_num hk).bind (h := fun k bs at_ => if k = 0 then .error 7 else .ok (k, at_)) (Rds.guard (f := fun _ at_ => .ok (k, at_)) (h0 h) Rds.pure)
      rw [List.append_nil] at this
      exact Rds.ite_pos (f := gbind gnum (fun k bs at_ => if k = 0 then .error 7 else .ok (k, at_))) h this
    · rw [if_neg h, h4 h]
      exact Rds.ite_neg (f := gbind gnum (fun k bs at_ => if k = 0 then .error 7 else .ok (k, at_))) h Rds.pure
  · unfold eB
    by_cases h : n % 2 = 0
    · rw [if_pos h]; exact Rds.ite_pos h (rds_byte b)
    · rw [if_neg h]
      rcases hb with hb | rfl
      · exact absurd hb h
      · exact Rds.ite_neg (f := gbyte) h Rds.pure
/-- What an operation that may be is like, by itself. -/
structure OkOp (x : OpD) : Prop where
  ref : refB x.at_ = true
  kind : x.kind = 1 ∨ x.kind = 2
  ins : x.kind = 1 → ¬ (x.left = true ∧ rootB x.at_ = true)
  del : x.kind = 2 → x.left = false ∧ x.byte = 0 ∧ rootB x.at_ = false
  n : x.at_.n ≤ 2000
theorem byte0 {b : UInt8} (h : ¬ (b.toNat : Int) ≠ 0) : b = 0 := by
  have : b.toNat = 0 := by omega
  exact UInt8.toNat_inj.1 this
theorem opB_of {x : OpD} (h : OkOp x) : ∃ n, n < 12 ∧ (8 ≤ n ∨ x.at_.c = Dig.zero) ∧ x.at_.n.toNat < 9223372036854775808 ∧ (4 ≤ n → x.at_.n.toNat ≠ 0) ∧ (¬ 4 ≤ n → x.at_.n.toNat = 0) ∧ (n % 2 = 0 ∨ x.byte = 0) ∧
    opOf n x.at_.c x.at_.n.toNat x.byte = x ∧ opB x = vi n ++ (eD n x.at_.c ++ (eN n x.at_.n.toNat ++ (eB n x.byte ++ []))) := by
  obtain ⟨hr, hk, hi, hd, hn⟩ := h
  obtain ⟨kind, left, ⟨own, c, n⟩, byte⟩ := x
  simp only at hr hk hi hd hn ⊢
  have hnum : ∀ m : Nat, numB ((m : Nat) : Int) = vi m := numB_nat
  have h0 : ∀ z : Int, 0 ≤ z → numB z = vi z.toNat := fun z hz => by rw [numB, if_neg (by omega)]
  unfold refB at hr
  cases own with
  | true =>
    simp only [if_true, Bool.and_eq_true, decide_eq_true_eq] at hr
    obtain ⟨rfl, hn0⟩ := hr
    have hroot : rootB ⟨true, Dig.zero, n⟩ = false := by rw [Bool.eq_false_iff]; intro h; have := (root_iff _).1 h; simp at this
    rcases hk with rfl | rfl
    · cases left with
      | true => exact ⟨6, by omega, .inr rfl, by omega, fun _ => by omega, fun h => absurd (by omega) h, .inl rfl, by simp [opOf]; omega, by simp [opB, flagI, eD, eN, eB, hnum, h0 n (by omega), show numB 6 = vi 6 from hnum 6]⟩
      | false => exact ⟨4, by omega, .inr rfl, by omega, fun _ => by omega, fun h => absurd (by omega) h, .inl rfl, by simp [opOf]; omega, by simp [opB, flagI, eD, eN, eB, hnum, h0 n (by omega), show numB 4 = vi 4 from hnum 4]⟩
    · obtain ⟨rfl, rfl, _⟩ := hd rfl
      exact ⟨5, by omega, .inr rfl, by omega, fun _ => by omega, fun h => absurd (by omega) h, .inr rfl, by simp [opOf]; omega, by simp [opB, flagI, eD, eN, eB, hnum, h0 n (by omega), show numB 5 = vi 5 from hnum 5]⟩
  | false =>
    by_cases hroot : rootB ⟨false, c, n⟩ = true
    · obtain ⟨_, rfl, rfl⟩ := (root_iff _).1 hroot
      rcases hk with rfl | rfl
      · cases left with
        | true => exact absurd ⟨rfl, hroot⟩ (hi rfl)
        | false => exact ⟨0, by omega, .inr rfl, by omega, fun h => by omega, fun _ => rfl, .inl rfl, by simp [opOf], by simp [opB, flagI, hroot, eD, eN, eB, show numB 0 = vi 0 from hnum 0]⟩
      · have := (hd rfl).2.2; rw [hroot] at this; cases this
    · have hroot' : rootB ⟨false, c, n⟩ = false := by simpa using hroot
      simp only [Bool.false_eq_true, if_false, hroot', Bool.false_or, Bool.and_eq_true, decide_eq_true_eq] at hr
      obtain ⟨hn0, hn1⟩ := hr
      rcases hk with rfl | rfl
      · cases left with
        | true => exact ⟨10, by omega, .inl (by omega), by omega, fun _ => by omega, fun h => absurd (by omega) h, .inl rfl, by simp [opOf]; omega, by simp [opB, flagI, hroot', eD, eN, eB, hnum, h0 n (by omega), show numB 10 = vi 10 from hnum 10]⟩
        | false => exact ⟨8, by omega, .inl (by omega), by omega, fun _ => by omega, fun h => absurd (by omega) h, .inl rfl, by simp [opOf]; omega, by simp [opB, flagI, hroot', eD, eN, eB, hnum, h0 n (by omega), show numB 8 = vi 8 from hnum 8]⟩
      · obtain ⟨rfl, rfl, _⟩ := hd rfl
        exact ⟨9, by omega, .inl (by omega), by omega, fun _ => by omega, fun h => absurd (by omega) h, .inr rfl, by simp [opOf]; omega, by simp [opB, flagI, hroot', eD, eN, eB, hnum, h0 n (by omega), show numB 9 = vi 9 from hnum 9]⟩
theorem rds_okop {x : OpD} (h : OkOp x) : Rds gop x (opB x) := by
  obtain ⟨n, h1, h2, h3, h4, h5, h6, h7, h8⟩ := opB_of h
  have := rds_op h1 h2 h3 h4 h5 h6
  rw [h7, ← h8] at this
  exact this
theorem opB_opOf {n k : Nat} {d : Dig} {b : UInt8} (hn : n < 12) (hd : ¬ 8 ≤ n → d = Dig.zero) (h0 : 4 ≤ n → k ≠ 0) (h4 : ¬ 4 ≤ n → k = 0) : opB (opOf n d k b) = vi n ++ (eD n d ++ (eN n k ++ (eB n b ++ []))) := by
  have hnum : ∀ m : Nat, numB ((m : Nat) : Int) = vi m := numB_nat
  have hr1 : ∀ {o : Bool} {c : Dig} {m : Nat}, m ≠ 0 → rootB ⟨o, c, (m : Int)⟩ = false := fun {o c m} hm => by
    rw [Bool.eq_false_iff]; intro h; have := (root_iff _).1 h; simp only at this; omega
  have hr0 : rootB ⟨false, Dig.zero, ((0 : Nat) : Int)⟩ = true := by decide
  match n, hn with
  | 0, _ => obtain rfl := h4 (by omega); obtain rfl := hd (by omega); simp [opB, opOf, flagI, eD, eN, eB, show rootB ⟨false, Dig.zero, 0⟩ = true from hr0, show numB 0 = vi 0 from hnum 0]
  | 1, _ => obtain rfl := h4 (by omega); obtain rfl := hd (by omega); simp [opB, opOf, flagI, eD, eN, eB, show rootB ⟨false, Dig.zero, 0⟩ = true from hr0, show numB 1 = vi 1 from hnum 1]
  | 2, _ => obtain rfl := h4 (by omega); obtain rfl := hd (by omega); simp [opB, opOf, flagI, eD, eN, eB, show rootB ⟨false, Dig.zero, 0⟩ = true from hr0, show numB 2 = vi 2 from hnum 2]
  | 3, _ => obtain rfl := h4 (by omega); obtain rfl := hd (by omega); simp [opB, opOf, flagI, eD, eN, eB, show rootB ⟨false, Dig.zero, 0⟩ = true from hr0, show numB 3 = vi 3 from hnum 3]
  | 4, _ => simp [opB, opOf, flagI, eD, eN, eB, hnum, show numB 4 = vi 4 from hnum 4]
  | 5, _ => simp [opB, opOf, flagI, eD, eN, eB, hnum, show numB 5 = vi 5 from hnum 5]
  | 6, _ => simp [opB, opOf, flagI, eD, eN, eB, hnum, show numB 6 = vi 6 from hnum 6]
  | 7, _ => simp [opB, opOf, flagI, eD, eN, eB, hnum, show numB 7 = vi 7 from hnum 7]
  | 8, _ => simp [opB, opOf, flagI, eD, eN, eB, hnum, hr1 (h0 (by omega)), show numB 8 = vi 8 from hnum 8]
  | 9, _ => simp [opB, opOf, flagI, eD, eN, eB, hnum, hr1 (h0 (by omega)), show numB 9 = vi 9 from hnum 9]
  | 10, _ => simp [opB, opOf, flagI, eD, eN, eB, hnum, hr1 (h0 (by omega)), show numB 10 = vi 10 from hnum 10]
  | 11, _ => simp [opB, opOf, flagI, eD, eN, eB, hnum, hr1 (h0 (by omega)), show numB 11 = vi 11 from hnum 11]
theorem snd_op : Snd gop (fun x l => l = opB x ∧ True) := by
  rw [gop_eq]
  refine (snd_num.bind fun n => Snd.guard (Snd.bind (Snd.ite (c := 8 ≤ n) snd_dig (Snd.pure (x := Dig.zero))) fun d => Snd.bind (Snd.ite (c := 4 ≤ n) (snd_num.bind fun k => Snd.guard (Snd.pure (x := k))) (Snd.pure (x := 0))) fun k =>
    Snd.bind (Snd.ite (c := n % 2 = 0) snd_byte (Snd.pure (x := 0))) fun b => Snd.pure)).mono ?_
  rintro x l ⟨n, l1, l2, rfl, ⟨rfl, _⟩, hn, d, l3, l4, rfl, h3, k, l5, l6, rfl, h5, b, l7, l8, rfl, h7, rfl, rfl⟩
  refine ⟨?_, trivial⟩
  have e3 : l3 = eD n d ∧ (¬ 8 ≤ n → d = Dig.zero) := by
    unfold eD
    rcases h3 with ⟨h, rfl⟩ | ⟨h, rfl, rfl⟩
    · exact ⟨by rw [if_pos h], fun h' => absurd h h'⟩
    · exact ⟨by rw [if_neg h], fun _ => rfl⟩
  have e5 : l5 = eN n k ∧ (4 ≤ n → k ≠ 0) ∧ (¬ 4 ≤ n → k = 0) := by
    unfold eN
    rcases h5 with ⟨h, k', l9, l10, rfl, ⟨rfl, _⟩, hk, rfl, rfl⟩ | ⟨h, rfl, rfl⟩
    · exact ⟨by rw [if_pos h, List.append_nil], fun _ => hk, fun h' => absurd h h'⟩
    · exact ⟨by rw [if_neg h], fun h' => absurd h' h, fun _ => rfl⟩
  have e7 : l7 = eB n b := by
    unfold eB
    rcases h7 with ⟨h, rfl⟩ | ⟨h, rfl, rfl⟩
    · rw [if_pos h]
    · rw [if_neg h]
  obtain ⟨rfl, hd⟩ := e3
  obtain ⟨rfl, h0, h4⟩ := e5
  subst e7
  exact (opB_opOf (by omega) hd h0 h4).symm

/-! ## Commits -/
def gcomR : Rdg ComD := gbind gnum fun n bs at_ => if 8 < n then .error 4 else gbind (fun bs at_ => gmany gdig bs n at_) (fun ps => gbind gtext fun au => gbind gtext fun no => gbind gnum fun m bs at_ => if 2000 < m then .error 4 else
  gbind (fun bs at_ => gmany gop bs m at_) (fun ops _ at_ => .ok (⟨ps, bs' au, bs' no, ops⟩, at_)) bs at_) bs at_
where bs' := Go.Fw.bs
theorem gcom_eq (b : List UInt8) : gcom b = gcomR b 0 := by
  unfold gcom gcomR gbind
  cases gnum b 0 with
  | error e => rfl
  | ok p =>
    obtain ⟨n, a⟩ := p
    simp only []
    by_cases h8 : 8 < n
    · simp only [h8, if_true]
    simp only [h8, if_false]
    cases gmany gdig b n a with
    | error e => rfl
    | ok p =>
      obtain ⟨ps, a⟩ := p
      simp only []
      cases gtext b a with
      | error e => rfl
      | ok p =>
        obtain ⟨au, a⟩ := p
        simp only []
        cases gtext b a with
        | error e => rfl
        | ok p =>
          obtain ⟨no, a⟩ := p
          simp only []
          cases gnum b a with
          | error e => rfl
          | ok p =>
            obtain ⟨m, a⟩ := p
            simp only []
            by_cases h2 : 2000 < m
            · simp only [h2, if_true]
            simp only [h2, if_false]
            cases gmany gop b m a <;> rfl
theorem MayOk.op {c : ComD} (h : MayOk c) {x : OpD} (hx : x ∈ c.ops) : OkOp x := by
  obtain ⟨j, hj⟩ := List.mem_iff_getElem?.1 hx
  have hn := h.n hx
  obtain ⟨h1, h2, h3, h4, _⟩ := rightX_zero (h.right' hj)
  refine ⟨h1, h4, fun hk ⟨a, b⟩ => h2 ⟨hk, a, b⟩, fun hk => ?_, hn.2⟩
  have h3' : ¬ (x.left = true ∨ (x.byte.toNat : Int) ≠ 0 ∨ rootB x.at_ = true) := fun e => h3 ⟨hk, e⟩
  rw [not_or, not_or] at h3'
  exact ⟨by simpa using h3'.1, byte0 h3'.2.1, by simpa using h3'.2.2⟩
theorem rds_com {c : ComD} (h : MayOk c) : Rds gcomR c (comB c) := by
  have h1 := h.parents
  have h2 := h.ops
  have h3 := h.name
  have h4 := h.note
  have hp := rds_many (f := gdig) (enc := fun d : Dig => d.1) (xs := c.parents) fun d _ => rds_dig d
  have ho := rds_many (f := gop) (enc := opB) (xs := c.ops) fun x hx => rds_okop (h.op hx)
  have ha := rds_text (t := c.author.toList) (by rw [toList_length]; omega)
  have hn := rds_text (t := c.note.toList) (by rw [toList_length]; omega)
  have e : (⟨c.parents, gcomR.bs' c.author.toList, gcomR.bs' c.note.toList, c.ops⟩ : ComD) = c := by
    show (⟨c.parents, bs c.author.toList, bs c.note.toList, c.ops⟩ : ComD) = c
    rw [bs_of, bs_of]
  have hall := (rds_num (n := c.parents.length) (by omega)).bind (h := fun n bs at_ => if 8 < n then .error 4 else gbind (fun bs at_ => gmany gdig bs n at_) (fun ps => gbind gtext fun au => gbind gtext fun no => gbind gnum fun m bs at_ => if 2000 < m then .error 4 else
    gbind (fun bs at_ => gmany gop bs m at_) (fun ops _ at_ => .ok ((⟨ps, gcomR.bs' au, gcomR.bs' no, ops⟩ : ComD), at_)) bs at_) bs at_)
    (Rds.guard (by omega) (hp.bind (ha.bind (hn.bind ((rds_num (n := c.ops.length) (by omega)).bind (Rds.guard (by omega) (ho.bind Rds.pure)))))))
  rw [e] at hall
  have e2 : comB c = vi c.parents.length ++ ((c.parents.map (·.1)).flatten ++ (textB c.author.toList ++ (textB c.note.toList ++ (vi c.ops.length ++ ((c.ops.map opB).flatten ++ []))))) := by
    simp only [comB, List.append_assoc, List.append_nil]
  rw [e2]
  exact hall
theorem snd_com : Snd gcomR (fun c l => l = comB c) := by
  refine (snd_num.bind fun n => Snd.guard (Snd.bind (snd_many (enc := fun d : Dig => d.1) (Q := fun _ => True) (snd_dig.mono fun d l h => ⟨h, trivial⟩) n) fun ps => snd_text.bind fun au => snd_text.bind fun no => snd_num.bind fun m => Snd.guard
    (Snd.bind (snd_many snd_op m) fun ops => Snd.pure))).mono ?_
  rintro c l ⟨n, l1, l2, rfl, ⟨rfl, _⟩, _, ps, l3, l4, rfl, ⟨rfl, rfl, _⟩, au, l5, l6, rfl, ⟨rfl, _⟩, no, l7, l8, rfl, ⟨rfl, _⟩, m, l9, l10, rfl, ⟨rfl, _⟩, _, ops, l11, l12, rfl, ⟨rfl, rfl, _⟩, rfl, rfl⟩
  show _ = comB ⟨ps, bs au, bs no, ops⟩
  simp only [comB, List.append_assoc, List.append_nil, bs_toList]
theorem dec_com {c : ComD} (h : mayI c = 0) : decI (comB c) = .ok c := by
  have := (rds_com (mayI_ok h)).1 [] []
  simp only [List.nil_append, List.append_nil, List.length_nil, Nat.zero_add] at this
  rw [decI, gcom_eq, this]
  simp [h]
theorem dec_head {c : ComD} (h : mayI c = 0) {k : Nat} (hk : k < (comB c).length) : decI ((comB c).take k) = .error 8 := by
  have := (rds_com (mayI_ok h)).2 [] k hk
  simp only [List.nil_append, List.length_nil] at this
  rw [decI, gcom_eq, this]
theorem dec_tail {c : ComD} (h : mayI c = 0) (x : UInt8) : decI (comB c ++ [x]) = .error 7 := by
  have := (rds_com (mayI_ok h)).1 [] [x]
  simp only [List.nil_append, List.length_nil, Nat.zero_add] at this
  rw [decI, gcom_eq, this]
  simp
theorem dec_just {b : List UInt8} {c : ComD} (h : decI b = .ok c) : mayI c = 0 ∧ comB c = b := by
  unfold decI at h
  rw [gcom_eq] at h
  split at h
  · cases h
  rename_i c' a hg
  split at h
  · cases h
  rename_i ha
  split at h
  · cases h
  rename_i hm
  injection h with h
  subst h
  obtain ⟨_, _, h3⟩ := snd_com b 0 _ _ (Nat.zero_le _) hg
  refine ⟨by simpa using hm, ?_⟩
  have e : a = b.length := by simpa using ha
  rw [← h3, e]
  simp
theorem com_inj {c d : ComD} (hc : mayI c = 0) (hd : mayI d = 0) (h : comB c = comB d) : c = d := by
  have h1 := dec_com hc
  have h2 := dec_com hd
  rw [h] at h1
  rw [h1] at h2
  injection h2
end Go.Pl
