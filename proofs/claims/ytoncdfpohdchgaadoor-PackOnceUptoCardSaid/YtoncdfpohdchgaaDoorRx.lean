/- What a reader of a commit holds while it reads; slices of digests and operations of our own. No condition. -/
import Derived.Test.YtoncdfpohdchgaaDoorRo
set_option linter.unusedSimpArgs false
set_option linter.unusedVariables false
namespace Go.Pl
/-- What was read before, and what comes. -/
def gcat {α : Type} (ps : List α) : Except Int (List α × Nat) → Except Int (List α × Nat)
  | .error e => .error e
  | .ok (xs, a) => .ok (ps ++ xs, a)
theorem gcat_nil {α : Type} (o : Except Int (List α × Nat)) : gcat [] o = o := by
  cases o with
  | error e => rfl
  | ok p => rfl
theorem gcat_err {α : Type} {f : List UInt8 → Nat → Except Int (α × Nat)} {b : List UInt8} {k p : Nat} {ps : List α} {e : Int} (h : f b p = .error e) : gcat ps (gmany f b (k + 1) p) = .error e := by
  rw [gmany, h]; rfl
theorem gcat_ok {α : Type} {f : List UInt8 → Nat → Except Int (α × Nat)} {b : List UInt8} {k p a : Nat} {ps : List α} {x : α} (h : f b p = .ok (x, a)) : gcat ps (gmany f b (k + 1) p) = gcat (ps ++ [x]) (gmany f b k a) := by
  rw [gmany, h]
  simp only []
  cases gmany f b k a with
  | error e => rfl
  | ok q => simp [gcat]
theorem gcat_end {α : Type} {f : List UInt8 → Nat → Except Int (α × Nat)} {b : List UInt8} {p : Nat} {ps : List α} : gcat ps (gmany f b 0 p) = .ok (ps, p) := by simp [gmany, gcat]
end Go.Pl
namespace Go.Proofs.YtoncdfpohdchgaaDoor
open Go.RowKit Go.Fw Go.Pl
/-- The reader g, since the world w: where it is, what it has read. -/
structure Rdr (w : World) (g : Nat) (bv : Value) (w0 : World) (p : Nat) (pv : Value) (ps : List Dig) (au no : ByteArray) (ov : Value) (os : List OpD) : Prop where
  lt : g < w.heap.size
  chg : Chg (· = g) w w0
  blk : Blk w0 g 111 (rdC bv (p : Int) pv au no ov)
  ownP : Own w0 31 32 pv (flatD ps)
  newP : ∀ k, pv.ownBlock = some k → w.heap.size ≤ k
  ownO : Own w0 132 37 ov (flatO os)
  newO : ∀ k, ov.ownBlock = some k → w.heap.size ≤ k
  apart : ∀ k, ov.ownBlock = some k → pv.ownBlock ≠ some k
section
variable {w w0 w1 w2 : World} {g p q : Nat} {bv pv ov pv' ov' : Value} {ps : List Dig} {os : List OpD} {au no : ByteArray} {d : Dig} {x : OpD}
theorem Rdr.ext (h : Rdr w g bv w0 p pv ps au no ov os) (hx : Ext w0 w1) : Rdr w g bv w1 p pv ps au no ov os :=
  ⟨h.lt, h.chg.thenExt hx, h.blk.ext hx, h.ownP.ext hx, h.newP, h.ownO.ext hx, h.newO, h.apart⟩
/-- The block g alone was turned: by a reading method, or by a store. -/
theorem Rdr.turn (h : Rdr w g bv w0 p pv ps au no ov os) (hc : Chg (· = g) w0 w1) {au' no' : ByteArray} (hB : Blk w1 g 111 (rdC bv (q : Int) pv au' no' ov)) : Rdr w g bv w1 q pv ps au' no' ov os :=
  ⟨h.lt, h.chg.trans hc (fun _ _ e => e), hB, h.ownP.chg hc (fun k hk e => by have := h.newP k hk; have := h.lt; subst e; omega), h.newP,
    h.ownO.chg hc (fun k hk e => by have := h.newO k hk; have := h.lt; subst e; omega), h.newO, h.apart⟩
/-- Behind an append onto the parents, and its store. -/
theorem Rdr.pushP (h : Rdr w g bv w0 p pv ps au no (.slice none 0 0) []) (hA : Own w1 31 32 pv' (flatD ps ++ digC d) ∧ Chg (fun k => pv.ownBlock = some k) w0 w1 ∧ (pv'.ownBlock = pv.ownBlock ∨ ∀ k, pv'.ownBlock = some k → w0.heap.size ≤ k))
    (hc : Chg (· = g) w1 w2) (hB : Blk w2 g 111 (rdC bv (p : Int) pv' au no (.slice none 0 0))) : Rdr w g bv w2 p pv' (ps ++ [d]) au no (.slice none 0 0) [] := by
  obtain ⟨h1, h2, h3⟩ := hA
  have hs := h.chg.size
  have hn : ∀ k, pv'.ownBlock = some k → w.heap.size ≤ k := by
    rcases h3 with h3 | h3
    · intro k hk; rw [h3] at hk; exact h.newP k hk
    · intro k hk; have := h3 k hk; omega
  have hl := h.lt
  refine ⟨h.lt, ?_, hB, ?_, hn, .inl ⟨rfl, rfl⟩, h.newO, fun k hk => by simp [Value.ownBlock] at hk⟩
  · exact (h.chg.trans h2 (fun i hi e => by have := h.newP i e; omega)).trans hc (fun _ _ e => e)
  · have e : flatD (ps ++ [d]) = flatD ps ++ digC d := by simp [flatD]
    rw [e]
    exact h1.chg hc (fun k hk e => by have := hn k hk; omega)
theorem Rdr.pushO (h : Rdr w g bv w0 p pv ps au no ov os) (hA : Own w1 132 37 ov' (flatO os ++ opC x) ∧ Chg (fun k => ov.ownBlock = some k) w0 w1 ∧ (ov'.ownBlock = ov.ownBlock ∨ ∀ k, ov'.ownBlock = some k → w0.heap.size ≤ k))
    (hc : Chg (· = g) w1 w2) (hB : Blk w2 g 111 (rdC bv (p : Int) pv au no ov')) : Rdr w g bv w2 p pv ps au no ov' (os ++ [x]) := by
  obtain ⟨h1, h2, h3⟩ := hA
  have hs := h.chg.size
  have hn : ∀ k, ov'.ownBlock = some k → w.heap.size ≤ k := by
    rcases h3 with h3 | h3
    · intro k hk; rw [h3] at hk; exact h.newO k hk
    · intro k hk; have := h3 k hk; omega
  have hl := h.lt
  have hlt := h.ownP.lt
  refine ⟨h.lt, ?_, hB, ?_, h.newP, ?_, hn, ?_⟩
  · exact (h.chg.trans h2 (fun i hi e => by have := h.newO i e; omega)).trans hc (fun _ _ e => e)
  · exact (h.ownP.chg h2 (fun k hk e => h.apart k e hk)).chg hc (fun k hk e => by have := h.newP k hk; omega)
  · have e : flatO (os ++ [x]) = flatO os ++ opC x := by simp [flatO]
    rw [e]
    exact h1.chg hc (fun k hk e => by have := hn k hk; omega)
  · rcases h3 with h3 | h3
    · intro k hk; rw [h3] at hk; exact h.apart k hk
    · intro k hk e; have := h3 k hk; have := hlt k e; omega
theorem Rdr.stillP (h : Rdr w g bv w0 p pv ps au no ov os) (hc : Chg (fun k => pv.ownBlock = some k) w0 w1) : Blk w1 g 111 (rdC bv (p : Int) pv au no ov) := h.blk.chg hc (fun e => by have := h.newP _ e; have := h.lt; omega)
theorem Rdr.stillO (h : Rdr w g bv w0 p pv ps au no ov os) (hc : Chg (fun k => ov.ownBlock = some k) w0 w1) : Blk w1 g 111 (rdC bv (p : Int) pv au no ov) := h.blk.chg hc (fun e => by have := h.newO _ e; have := h.lt; omega)
theorem Rdr.com (h : Rdr w g bv w0 p pv ps au no ov os) (ha : au.size ≤ maxLen) (hn : no.size ≤ maxLen) : Com w0 (.agg (comC pv au no ov).toArray) ⟨ps, au, no, os⟩ :=
  ⟨pv, ov, rfl, Own.sl h.ownP (fun x => digC_length x) (by decide), Own.sl h.ownO (fun x => opC_length x) (by decide), ha, hn⟩
end
end Go.Proofs.YtoncdfpohdchgaaDoor
namespace Go.Pl
open Go.Fw
theorem gdig_len {b : List UInt8} {p q : Nat} {d : Dig} (h : gdig b p = .ok (d, q)) : q ≤ b.length := by
  unfold gdig at h
  split at h
  · injection h with h; injection h with _ h; omega
  · cases h
theorem gop_len {b : List UInt8} {p q : Nat} {x : OpD} (h : gop b p = .ok (x, q)) (hp : p ≤ b.length) : q ≤ b.length := by
  unfold gop at h
  split at h
  · cases h
  rename_i n a1 h1
  have l1 := gnum_len h1 hp
  split at h
  · cases h
  split at h
  · cases h
  rename_i d a2 h2
  have l2 : a2 ≤ b.length := by
    unfold gopD at h2
    split at h2
    · exact gdig_len h2
    · injection h2 with h2; injection h2 with _ h2; omega
  split at h
  · cases h
  rename_i k a3 h3
  have l3 : a3 ≤ b.length := by
    unfold gopN at h3
    split at h3
    · split at h3
      · cases h3
      · rename_i k' a' h4
        have := gnum_len h4 l2
        split at h3
        · cases h3
        · injection h3 with h3; injection h3 with _ h3; omega
    · injection h3 with h3; injection h3 with _ h3; omega
  split at h
  · cases h
  rename_i y a4 h4
  injection h with h; injection h with _ h
  unfold gopB at h4
  split at h4
  · split at h4
    · rename_i z hz
      have := (List.getElem?_eq_some_iff.1 hz).1
      injection h4 with h4; injection h4 with _ h4; omega
    · cases h4
  · injection h4 with h4; injection h4 with _ h4; omega
section
variable {b au no : List UInt8} {n m a1 a2 a3 a4 a5 a6 : Nat} {ps : List Dig} {os : List OpD} {e : Int}
theorem dec_e1 (h : gnum b 0 = .error e) : decI b = .error e := by rw [decI, gcom, h]
variable (h1 : gnum b 0 = .ok (n, a1))
include h1
theorem dec_e2 (h : 8 < n) : decI b = .error 4 := by rw [decI, gcom, h1]; simp only []; rw [if_pos h]
variable (h2 : ¬ 8 < n)
include h2
theorem dec_e3 (h : gmany gdig b n a1 = .error e) : decI b = .error e := by rw [decI, gcom, h1]; simp only []; rw [if_neg h2, h]
variable (h3 : gmany gdig b n a1 = .ok (ps, a2))
include h3
theorem dec_e4 (h : gtext b a2 = .error e) : decI b = .error e := by rw [decI, gcom, h1]; simp only []; rw [if_neg h2, h3]; simp only []; rw [h]
variable (h4 : gtext b a2 = .ok (au, a3))
include h4
theorem dec_e5 (h : gtext b a3 = .error e) : decI b = .error e := by rw [decI, gcom, h1]; simp only []; rw [if_neg h2, h3]; simp only []; rw [h4]; simp only []; rw [h]
variable (h5 : gtext b a3 = .ok (no, a4))
include h5
theorem dec_e6 (h : gnum b a4 = .error e) : decI b = .error e := by rw [decI, gcom, h1]; simp only []; rw [if_neg h2, h3]; simp only []; rw [h4]; simp only []; rw [h5]; simp only []; rw [h]
variable (h6 : gnum b a4 = .ok (m, a5))
include h6
theorem dec_e7 (h : 2000 < m) : decI b = .error 4 := by rw [decI, gcom, h1]; simp only []; rw [if_neg h2, h3]; simp only []; rw [h4]; simp only []; rw [h5]; simp only []; rw [h6]; simp only []; rw [if_pos h]
variable (h7 : ¬ 2000 < m)
include h7
theorem dec_e8 (h : gmany gop b m a5 = .error e) : decI b = .error e := by rw [decI, gcom, h1]; simp only []; rw [if_neg h2, h3]; simp only []; rw [h4]; simp only []; rw [h5]; simp only []; rw [h6]; simp only []; rw [if_neg h7, h]
variable (h8 : gmany gop b m a5 = .ok (os, a6))
include h8
theorem gcom_ok : gcom b = .ok (⟨ps, bs au, bs no, os⟩, a6) := by rw [gcom, h1]; simp only []; rw [if_neg h2, h3]; simp only []; rw [h4]; simp only []; rw [h5]; simp only []; rw [h6]; simp only []; rw [if_neg h7, h8]
theorem dec_e9 (h : a6 ≠ b.length) : decI b = .error 7 := by rw [decI, gcom_ok h1 h2 h3 h4 h5 h6 h7 h8]; simp only []; rw [if_pos h]
theorem dec_e10 (h9 : a6 = b.length) (h : mayI ⟨ps, bs au, bs no, os⟩ ≠ 0) : decI b = .error (mayI ⟨ps, bs au, bs no, os⟩) := by rw [decI, gcom_ok h1 h2 h3 h4 h5 h6 h7 h8]; simp only []; rw [if_neg (by simpa using h9), if_pos h]
theorem dec_ok (h9 : a6 = b.length) (h : mayI ⟨ps, bs au, bs no, os⟩ = 0) : decI b = .ok ⟨ps, bs au, bs no, os⟩ := by rw [decI, gcom_ok h1 h2 h3 h4 h5 h6 h7 h8]; simp only []; rw [if_neg (by simpa using h9), if_neg (by simpa using h)]
end
end Go.Pl
