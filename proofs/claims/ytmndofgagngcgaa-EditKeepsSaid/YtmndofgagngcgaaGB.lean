/- Several texts as one: Oa, Ob. -/
import Derived.Test.YtmndofgagngcgaaG1
import Derived.Test.YtmndofgagngcgaaTy
import Derived.Test.YtmndofgagngcgaaChecked
set_option linter.unusedSimpArgs false
set_option linter.unusedVariables false
/- What an argument of plain data is, by its type. No condition; no program. -/
namespace Go.Fw
open Go.RowKit Go.WideShapes Go.ChangeShapes Go.ChangeAt Go.Deep
/-- Whatever reads at the type t, within the form's reach, is as R says. -/
def RdW (P : Program) (t : TypeId) (R : World → List Value → Prop) : Prop :=
  ∀ (H : Type) (e : TypeId × Value → H) (w : World) (base : Nat) (spare : Nat → Bool) (held : Bool) (fuel : Nat) (cs : List Value) (d : DataW H) (ps : List MemPlace),
    DataW.trod e P w base spare held fuel t cs = some (d, ps) → (∀ n ∈ d.weights P t, n ≤ reachBytes) → R w cs
section
variable {P : Program} {t e : TypeId} {R : World → List Value → Prop}
theorem RdW.mono {R' : World → List Value → Prop} (h : RdW P t R) (hr : ∀ w cs, R w cs → R' w cs) : RdW P t R' := fun H en w b sp hd fu cs d ps ht hw => hr _ _ (h H en w b sp hd fu cs d ps ht hw)
theorem u8_of {n : Int} (h : (Lit.int .u8 n).wf = true) : ∃ b : UInt8, Value.int .u8 n = bc b := by
  have h1 : IntKind.u8.min = 0 := rfl
  have h2 : IntKind.u8.max = 255 := rfl
  simp only [Lit.wf, Bool.and_eq_true, decide_eq_true_eq] at h
  refine ⟨UInt8.ofNat n.toNat, ?_⟩
  unfold bc
  congr 1
  rw [UInt8.toNat_ofNat', Nat.mod_eq_of_lt (by omega)]
  omega
theorem RdW.u8 (ht : P.underlying t = some (.int .u8)) : RdW P t (fun _ cs => ∃ b, cs = [bc b]) := fun H en w bs sp hd fu cs d ps h _ => by
  obtain ⟨n, rfl, _, hn⟩ := DataW.trod_int ht h
  obtain ⟨b, hb⟩ := u8_of hn
  exact ⟨b, by rw [hb]⟩
theorem RdW.int (ht : P.underlying t = some (.int .i64)) : RdW P t (fun _ cs => ∃ i, cs = [.int .i64 i] ∧ InI64 i) := fun H en w bs sp hd fu cs d ps h _ => by
  obtain ⟨n, rfl, _, hn⟩ := DataW.trod_int ht h
  have h1 : IntKind.i64.min = -9223372036854775808 := rfl
  have h2 : IntKind.i64.max = 9223372036854775807 := rfl
  simp only [Lit.wf, Bool.and_eq_true, decide_eq_true_eq] at hn
  exact ⟨n, rfl, by omega, by omega⟩
theorem RdW.bool (ht : P.underlying t = some .bool) : RdW P t (fun _ cs => ∃ b, cs = [.bool b]) := fun H en w bs sp hd fu cs d ps h _ => by
  obtain ⟨b, rfl, _⟩ := DataW.trod_bool ht h
  exact ⟨b, rfl⟩
theorem RdW.string (ht : P.underlying t = some .string) : RdW P t (fun _ cs => ∃ s, cs = [.string s] ∧ s.size ≤ reachBytes) := fun H en w bs sp hd fu cs d ps h hw => by
  obtain ⟨s, rfl, hx, _⟩ := DataW.trod_string ht h
  injection hx with h1 h2
  subst h1
  have := hw s.data.toList.length (by simp [DataW.weights])
  exact ⟨s, rfl, by simpa using this⟩
theorem RdW.struct {fs : Array Field} (ht : P.underlying t = some (.struct fs)) (R : Nat → World → List Value → Prop) (hf : ∀ (i : Nat) (f : Field), fs[i]? = some f → RdW P f.type (R i)) :
    RdW P t (fun w cs => cs.length = P.cellsOf t ∧ ∀ (i : Nat) (f : Field), fs[i]? = some f → R i w ((cs.drop f.offset).take (P.cellsOf f.type))) := fun H en w bs sp hd fu cs d ps h hw => by
  obtain ⟨xs, n, _, hx, hl, hxl, hi⟩ := DataW.trod_struct ht h
  injection hx with h1 h2
  subst h1
  refine ⟨hl, fun i f hif => ?_⟩
  have h3 := hi i f hif
  have hlt : i < fs.size := (Array.getElem?_eq_some_iff.1 hif).1
  rw [List.getElem?_eq_getElem (by omega)] at h3
  refine hf i f hif H en w bs sp hd n _ _ _ h3 fun k hk => hw k ?_
  rw [DataW.weights, ht]
  refine DataW.weights_mem_each (j := i) (t := f.type) (d := (xs[i]'(by omega)).1) ?_ ?_ k hk
  · simp [hif]
  · simp [List.getElem?_eq_getElem (show i < xs.length by omega)]
theorem mem_weightsAll {H : Type} {e : TypeId} : ∀ {ds : List (DataW H)} {d : DataW H} {k : Nat}, d ∈ ds → k ∈ d.weights P e → k ∈ DataW.weightsAll P e ds
  | x :: ds, d, k, hd, hk => by
    simp only [DataW.weightsAll, List.mem_append]
    rcases List.mem_cons.1 hd with rfl | hd
    · exact .inl hk
    · exact .inr (mem_weightsAll hd hk)
theorem RdW.array1 {m : Nat} (ht : P.underlying t = some (.array m e)) (hc : P.cellsOf e = 1) (hct : P.cellsOf t = m) (he : RdW P e R) :
    RdW P t (fun w cs => cs.length = m ∧ ∀ (i : Nat) (v : Value), cs[i]? = some v → R w [v]) := fun H en w bs sp hd fu cs d ps h hw => by
  obtain ⟨xs, n, _, hx, hl, hxl, hi⟩ := DataW.trod_array ht h
  injection hx with h1 h2
  subst h1
  rw [hct] at hl
  refine ⟨hl, fun i v hv => ?_⟩
  have hlt : i < cs.length := (List.getElem?_eq_some_iff.1 hv).1
  have h3 := hi i (by omega)
  rw [hc, Nat.mul_one, List.getElem?_eq_getElem (by omega)] at h3
  have e1 : (cs.drop i).take 1 = [v] := by
    rw [List.drop_eq_getElem_cons hlt]
    have : cs[i] = v := (List.getElem?_eq_some_iff.1 hv).2
    simp [this]
  rw [e1] at h3
  refine he H en w bs sp hd n _ _ _ h3 fun k hk => hw k ?_
  rw [DataW.weights, ht]
  exact mem_weightsAll (List.mem_map.2 ⟨xs[i]'(by omega), List.getElem_mem _, rfl⟩) hk
theorem list_of {α : Type} {Q : Nat → α → Prop} : ∀ (m : Nat), (∀ i, i < m → ∃ a, Q i a) → ∃ xs : List α, xs.length = m ∧ ∀ i x, xs[i]? = some x → Q i x
  | 0, _ => ⟨[], rfl, fun i x h => by simp at h⟩
  | m + 1, h => by
    obtain ⟨xs, hl, hx⟩ := list_of m fun i hi => h i (by omega)
    obtain ⟨a, ha⟩ := h m (by omega)
    refine ⟨xs ++ [a], by simp [hl], fun i x hi => ?_⟩
    rcases Nat.lt_or_ge i m with hlt | hge
    · rw [List.getElem?_append_left (by omega)] at hi; exact hx i x hi
    · rw [List.getElem?_append_right (by omega)] at hi
      have h0 : i - xs.length = 0 := by
        rcases Nat.eq_zero_or_pos (i - xs.length) with h0 | h0
        · exact h0
        · rw [List.getElem?_eq_none (by simp; omega)] at hi; cases hi
      rw [h0] at hi
      simp at hi
      subst hi
      have : i = m := by omega
      subst this; exact ha
theorem RdW.slice {α : Type} {enc : α → List Value} {Q : World → α → Prop} {k : Nat} (ht : P.underlying t = some (.slice e)) (hc : P.cellsOf e = k) (hk : ∀ a, (enc a).length = k) (he : RdW P e (fun w cs => ∃ a, cs = enc a ∧ Q w a)) :
    RdW P t (fun w cs => ∃ v xs, cs = [v] ∧ Sl w enc k v xs ∧ xs.length * P.bytesOf e ≤ reachBytes ∧ ∀ (i : Nat) x, xs[i]? = some x → Q w x) := fun H en w bs sp hd fu cs d ps h hw => by
  rcases open_slice ht h with ⟨rfl, _⟩ | ⟨a, len, cap, m, n, D, Pl, rfl, hb, hl, hm, hmm, hx, hi⟩
  · exact ⟨_, [], rfl, Sl.nil, by simp, fun i x hx => by simp at hx⟩
  · injection hx with h1 h2
    subst h1
    have hle : len ≤ m := by rw [hmm]; split <;> omega
    obtain ⟨xs, hxl, hxs⟩ := list_of (Q := fun i (x : α) => Mem w (a.add (i * k)) (enc x) ∧ Q w x) len fun i hil => by
      obtain ⟨cs', hc1, hc2⟩ := hi i (by omega)
      rw [hc] at hc1
      obtain ⟨_, hcl, hcg⟩ := World.cells?_some hc1
      obtain ⟨x, rfl, hq⟩ := he H en w bs sp hd n _ _ _ hc2 fun u hu => hw u (by
        rw [DataW.weights, ht]
        refine List.mem_cons_of_mem _ (List.mem_append_left _ (mem_weightsAll (List.mem_map.2 ⟨i, by simpa using hil, rfl⟩) hu)))
      refine ⟨x, fun j v hj => ?_, hq⟩
      have hjl : j < (enc x).length := (List.getElem?_eq_some_iff.1 hj).1
      rw [hcg j (by omega), hj]
    refine ⟨_, xs, rfl, ⟨some a, len, cap, rfl, hxl, hl, hm, fun i x hx => ⟨a, rfl, (hxs i x hx).1⟩⟩, ?_, fun i x hx => (hxs i x hx).2⟩
    have := hw ((((List.range len).map D).length + ((List.range (m - len)).map fun j => D (len + j)).length) * P.bytesOf e) (by rw [DataW.weights, ht]; exact List.mem_cons_self)
    simp only [List.length_map, List.length_range] at this
    have h2 : xs.length * P.bytesOf e ≤ (len + (m - len)) * P.bytesOf e := Nat.mul_le_mul_right _ (by omega)
    omega
end
theorem reach_max {n : Nat} (h : n ≤ reachBytes) : n ≤ maxLen := Nat.le_trans h (by decide)
section api
variable {P : Program} {t e tb ti td tr : TypeId}
theorem RdW.dig (ht : P.underlying t = some (.array 32 e)) (he : P.underlying e = some (.int .u8)) (hc : P.cellsOf e = 1) (hct : P.cellsOf t = 32) : RdW P t (fun _ cs => ∃ d, cs = digC d) :=
  (RdW.array1 ht hc hct (RdW.u8 he)).mono fun w cs ⟨hl, hg⟩ => by
    obtain ⟨xs, hxl, hxs⟩ := list_of (Q := fun i (b : UInt8) => cs[i]? = some (bc b)) 32 fun i hi => by
      obtain ⟨b, hb⟩ := hg i _ (List.getElem?_eq_getElem (by omega))
      exact ⟨b, by rw [List.getElem?_eq_getElem (by omega)]; injection hb with hb; rw [hb]⟩
    refine ⟨⟨xs, hxl⟩, ?_⟩
    apply List.ext_getElem?
    intro i
    rcases Nat.lt_or_ge i 32 with h | h
    · rw [hxs i _ (List.getElem?_eq_getElem (by omega)), digC, bytesC_get (l := xs) (List.getElem?_eq_getElem (by omega))]
    · rw [List.getElem?_eq_none (by omega), List.getElem?_eq_none (by rw [digC_length]; omega)]
theorem list_split {cs : List Value} {a b : Nat} : cs.take (a + b) = cs.take a ++ (cs.drop a).take b := List.take_add
theorem RdW.ref {f0 f1 f2 : Field} (ht : P.underlying t = some (.struct #[f0, f1, f2])) (hct : P.cellsOf t = 34) (h0 : RdW P f0.type (fun _ cs => ∃ b, cs = [.bool b])) (h1 : RdW P f1.type (fun _ cs => ∃ d, cs = digC d)) (h2 : RdW P f2.type (fun _ cs => ∃ i, cs = [.int .i64 i] ∧ InI64 i))
    (o0 : f0.offset = 0) (o1 : f1.offset = 1) (o2 : f2.offset = 33) (c0 : P.cellsOf f0.type = 1) (c1 : P.cellsOf f1.type = 32) (c2 : P.cellsOf f2.type = 1) : RdW P t (fun _ cs => ∃ r, cs = refC r ∧ InI64 r.n) :=
  (RdW.struct ht (fun i w cs => match i with | 0 => ∃ b, cs = [.bool b] | 1 => ∃ d, cs = digC d | _ => ∃ i, cs = [.int .i64 i] ∧ InI64 i) (fun i f hf => by
    match i, hf with
    | 0, hf => simp at hf; subst hf; exact h0
    | 1, hf => simp at hf; subst hf; exact h1
    | 2, hf => simp at hf; subst hf; exact h2
    | i + 3, hf => simp at hf)).mono fun w cs ⟨hl, hg⟩ => by
      obtain ⟨b, hb⟩ := hg 0 f0 rfl
      obtain ⟨d, hd⟩ := hg 1 f1 rfl
      obtain ⟨n, hn, hi⟩ := hg 2 f2 rfl
      rw [o0, c0] at hb; rw [o1, c1] at hd; rw [o2, c2] at hn
      refine ⟨⟨b, d, n⟩, ?_, hi⟩
      have e1 : cs = cs.take (1 + 32 + 1) := by rw [List.take_of_length_le (by omega)]
      rw [e1, list_split, list_split, hd, hn]
      rw [List.drop_zero] at hb
      rw [hb]; rfl
theorem RdW.op {f0 f1 f2 f3 : Field} (ht : P.underlying t = some (.struct #[f0, f1, f2, f3])) (hct : P.cellsOf t = 37) (h0 : RdW P f0.type (fun _ cs => ∃ i, cs = [.int .i64 i] ∧ InI64 i)) (h1 : RdW P f1.type (fun _ cs => ∃ b, cs = [.bool b])) (h2 : RdW P f2.type (fun _ cs => ∃ r, cs = refC r ∧ InI64 r.n)) (h3 : RdW P f3.type (fun _ cs => ∃ b, cs = [bc b]))
    (o0 : f0.offset = 0) (o1 : f1.offset = 1) (o2 : f2.offset = 2) (o3 : f3.offset = 36) (c0 : P.cellsOf f0.type = 1) (c1 : P.cellsOf f1.type = 1) (c2 : P.cellsOf f2.type = 34) (c3 : P.cellsOf f3.type = 1) : RdW P t (fun _ cs => ∃ x, cs = opC x ∧ InI64 x.kind ∧ InI64 x.at_.n) :=
  (RdW.struct ht (fun i w cs => match i with | 0 => ∃ i, cs = [.int .i64 i] ∧ InI64 i | 1 => ∃ b, cs = [.bool b] | 2 => ∃ r, cs = refC r ∧ InI64 r.n | _ => ∃ b, cs = [bc b]) (fun i f hf => by
    match i, hf with
    | 0, hf => simp at hf; subst hf; exact h0
    | 1, hf => simp at hf; subst hf; exact h1
    | 2, hf => simp at hf; subst hf; exact h2
    | 3, hf => simp at hf; subst hf; exact h3
    | i + 4, hf => simp at hf)).mono fun w cs ⟨hl, hg⟩ => by
      obtain ⟨k, hk, hki⟩ := hg 0 f0 rfl
      obtain ⟨b, hb⟩ := hg 1 f1 rfl
      obtain ⟨r, hr, hi⟩ := hg 2 f2 rfl
      obtain ⟨x, hx⟩ := hg 3 f3 rfl
      rw [o0, c0] at hk; rw [o1, c1] at hb; rw [o2, c2] at hr; rw [o3, c3] at hx
      refine ⟨⟨k, b, r, x⟩, ?_, hki, hi⟩
      have e1 : cs = cs.take (1 + 1 + 34 + 1) := by rw [List.take_of_length_le (by omega)]
      rw [e1, list_split, list_split, list_split, hb, hr, hx]
      rw [List.drop_zero] at hk
      rw [hk]; simp [opC]
/-- A commit that came in. -/
structure ComIn (w : World) (v : Value) (c : ComD) : Prop where
  com : Com w v c
  parents : c.parents.length * 32 ≤ reachBytes
  author : c.author.size ≤ reachBytes
  note : c.note.size ≤ reachBytes
  ops : c.ops.length * 72 ≤ reachBytes
  ints : ∀ (i : Nat) x, c.ops[i]? = some x → InI64 x.kind ∧ InI64 x.at_.n
theorem RdW.com {f0 f1 f2 f3 : Field} {ed eo : TypeId} (ht : P.underlying t = some (.struct #[f0, f1, f2, f3])) (hct : P.cellsOf t = 4)
    (u0 : P.underlying f0.type = some (.slice ed)) (cd : P.cellsOf ed = 32) (bd : P.bytesOf ed = 32) (hd : RdW P ed (fun _ cs => ∃ d, cs = digC d))
    (u1 : P.underlying f1.type = some .string) (u2 : P.underlying f2.type = some .string)
    (u3 : P.underlying f3.type = some (.slice eo)) (co : P.cellsOf eo = 37) (bo : P.bytesOf eo = 72) (ho : RdW P eo (fun _ cs => ∃ x, cs = opC x ∧ InI64 x.kind ∧ InI64 x.at_.n))
    (o0 : f0.offset = 0) (o1 : f1.offset = 1) (o2 : f2.offset = 2) (o3 : f3.offset = 3) (c0 : P.cellsOf f0.type = 1) (c1 : P.cellsOf f1.type = 1) (c2 : P.cellsOf f2.type = 1) (c3 : P.cellsOf f3.type = 1) :
    RdW P t (fun w cs => ∃ c, ComIn w (.agg cs.toArray) c) :=
  (RdW.struct ht (fun i w cs => match i with
      | 0 => ∃ v xs, cs = [v] ∧ Sl w digC 32 v xs ∧ xs.length * P.bytesOf ed ≤ reachBytes ∧ ∀ (i : Nat) x, xs[i]? = some x → True
      | 1 => ∃ s, cs = [.string s] ∧ s.size ≤ reachBytes
      | 2 => ∃ s, cs = [.string s] ∧ s.size ≤ reachBytes
      | _ => ∃ v xs, cs = [v] ∧ Sl w opC 37 v xs ∧ xs.length * P.bytesOf eo ≤ reachBytes ∧ ∀ (i : Nat) x, xs[i]? = some x → InI64 x.kind ∧ InI64 x.at_.n) (fun i f hf => by
    match i, hf with
    | 0, hf => simp at hf; subst hf; exact RdW.slice (Q := fun _ _ => True) u0 cd digC_length (hd.mono fun w cs ⟨d, h⟩ => ⟨d, h, trivial⟩)
    | 1, hf => simp at hf; subst hf; exact RdW.string u1
    | 2, hf => simp at hf; subst hf; exact RdW.string u2
    | 3, hf => simp at hf; subst hf; exact RdW.slice (Q := fun _ x => InI64 x.kind ∧ InI64 x.at_.n) u3 co opC_length ho
    | i + 4, hf => simp at hf)).mono fun w cs ⟨hl, hg⟩ => by
      obtain ⟨pv, xs, h0, hs, hb, _⟩ := hg 0 f0 rfl
      obtain ⟨au, h1, ha⟩ := hg 1 f1 rfl
      obtain ⟨no, h2, hn⟩ := hg 2 f2 rfl
      obtain ⟨ov, ys, h3, hso, hbo, hq⟩ := hg 3 f3 rfl
      rw [o0, c0] at h0; rw [o1, c1] at h1; rw [o2, c2] at h2; rw [o3, c3] at h3
      rw [bd] at hb; rw [bo] at hbo
      have e1 : cs = cs.take (1 + 1 + 1 + 1) := by rw [List.take_of_length_le (by omega)]
      rw [List.drop_zero] at h0
      have e2 : cs = comC pv au no ov := by rw [e1, list_split, list_split, list_split, h0, h1, h2, h3]; rfl
      refine ⟨⟨xs, au, no, ys⟩, ⟨pv, ov, by rw [e2], hs, hso, reach_max ha, reach_max hn⟩, hb, ha, hn, hbo, hq⟩
end api
/-- An argument, out of its reading. -/
theorem RdW.arg {H : Type} {en : TypeId × Value → H} {P : Program} {t : TypeId} {R : World → List Value → Prop} {w : World} {v : Value} {d : DataW H} {ps : List MemPlace} (h : RdW P t R) (ht : DataW.Trod en P w 0 (fun _ => true) true t v d ps) (hw : ∀ n ∈ d.weights P t, n ≤ reachBytes) : R w v.cells.toList := by
  obtain ⟨fuel, hf⟩ := ht
  exact h H en w _ _ _ fuel _ _ _ hf hw
theorem weights1 {H : Type} {P : Program} {ts : List TypeId} {ds : List (DataW H)} (h : (DataW.weightsEach P ts ds).all (· ≤ reachBytes) = true) {j : Nat} {t : TypeId} {d : DataW H} (ht : ts[j]? = some t) (hd : ds[j]? = some d) : ∀ n ∈ d.weights P t, n ≤ reachBytes := fun n hn => by
  have := List.all_eq_true.1 h n (DataW.weights_mem_each ht hd n hn)
  simpa using this
end Go.Fw

/- The api's types as arguments of this program: closed facts. No condition. -/
namespace Go.Proofs.Ytmndofgagngcgaa
open Go.RowKit Go.Fw Go.WideShapes Go.ChangeShapes
theorem own0 : ownKnob Try.prog.godebug = none := by kernel_rfl
theorem laidOut0 : laidOutB Try.prog = true := by kernel_rfl
theorem rd_dig : RdW Try.prog 50 (fun _ cs => ∃ d, cs = digC d) := RdW.dig Try.underlying50 Try.underlying5 (by kernel_rfl) (by kernel_rfl)
theorem rd_ref : RdW Try.prog 61 (fun _ cs => ∃ r, cs = refC r ∧ InI64 r.n) :=
  RdW.ref Try.underlying61 (by kernel_rfl) (RdW.bool Try.underlying4) rd_dig (RdW.int Try.underlying3) rfl rfl rfl (by kernel_rfl) (by kernel_rfl) (by kernel_rfl)
theorem rd_op : RdW Try.prog 93 (fun _ cs => ∃ x, cs = opC x ∧ InI64 x.kind ∧ InI64 x.at_.n) :=
  RdW.op Try.underlying93 (by kernel_rfl) (RdW.int Try.underlying3) (RdW.bool Try.underlying4) rd_ref (RdW.u8 Try.underlying5) rfl rfl rfl rfl (by kernel_rfl) (by kernel_rfl) (by kernel_rfl) (by kernel_rfl)
theorem rd_ops : RdW Try.prog 27 (fun w cs => ∃ v xs, cs = [v] ∧ Sl w opC 37 v xs ∧ xs.length * Try.prog.bytesOf 93 ≤ reachBytes ∧ ∀ (i : Nat) x, xs[i]? = some x → InI64 x.kind ∧ InI64 x.at_.n) :=
  RdW.slice (Q := fun _ x => InI64 x.kind ∧ InI64 x.at_.n) Try.underlying27 (by kernel_rfl) opC_length rd_op
theorem bytes_op : Try.prog.bytesOf 93 = 72 := by kernel_rfl
section
variable {H : Type} {en : TypeId × Value → H} {w : World} {v : Value} {d : DataW H} {ps : List MemPlace} {base : Nat}
set_option maxRecDepth 100000 in
theorem arg_string (hv : Value.okWide Try.prog w .any base 9 v) (h : DataW.Trod en Try.prog w 0 (fun _ => true) true 9 v d ps) (hw : ∀ n ∈ d.weights Try.prog 9, n ≤ reachBytes) : ∃ s, v = .string s ∧ s.size ≤ reachBytes := by
  obtain ⟨s, hs, hb⟩ := (RdW.string Try.underlying9).arg h hw
  obtain ⟨s', rfl⟩ := okWide_string Try.underlying9 hv
  simp [Value.cells] at hs
  subst hs
  exact ⟨s', rfl, hb⟩
set_option maxRecDepth 100000 in
theorem arg_int (hv : Value.okWide Try.prog w .any base 3 v) (h : DataW.Trod en Try.prog w 0 (fun _ => true) true 3 v d ps) (hw : ∀ n ∈ d.weights Try.prog 3, n ≤ reachBytes) : ∃ i, v = .int .i64 i ∧ InI64 i := by
  obtain ⟨s, hs, hb⟩ := (RdW.int Try.underlying3).arg h hw
  obtain ⟨s', rfl⟩ := okWide_int Try.underlying3 hv
  simp [Value.cells] at hs
  subst hs
  exact ⟨s', rfl, hb⟩
set_option maxRecDepth 100000 in
theorem arg_ops (hv : Value.okWide Try.prog w .any base 27 v) (h : DataW.Trod en Try.prog w 0 (fun _ => true) true 27 v d ps) (hw : ∀ n ∈ d.weights Try.prog 27, n ≤ reachBytes) :
    ∃ xs, Sl w opC 37 v xs ∧ xs.length * 72 ≤ reachBytes ∧ ∀ (i : Nat) x, xs[i]? = some x → InI64 x.kind ∧ InI64 x.at_.n := by
  obtain ⟨u, xs, hs, hb, hl, hq⟩ := rd_ops.arg h hw
  obtain ⟨a, m, c, rfl⟩ := okWide_slice Try.underlying27 hv
  simp [Value.cells] at hs
  subst hs
  rw [bytes_op] at hl
  exact ⟨xs, hb, hl, hq⟩
end
end Go.Proofs.Ytmndofgagngcgaa
