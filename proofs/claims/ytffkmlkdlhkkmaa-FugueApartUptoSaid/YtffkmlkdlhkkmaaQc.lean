/- Fugue's trees: which commits are taken, runs at a gap, deletions, what stays. No condition; no program. -/
import Derived.Test.YtffkmlkdlhkkmaaQb
set_option linter.unusedSimpArgs false
set_option linter.unusedVariables false
namespace Go.Fu
open Go.Fw Go.Pl
/-! ## Which commits are taken in the end -/
theorem sum_erase {α : Type} [BEq α] [LawfulBEq α] (f : α → Nat) : ∀ {l : List α} {a : α}, a ∈ l → (l.map f).sum = f a + ((l.erase a).map f).sum
  | [], a, h => by cases h
  | x :: l, a, h => by
    by_cases e : x = a
    · subst e; simp
    · rw [List.erase_cons_tail (by simpa using e)]
      have := sum_erase f (l := l) (a := a) (by rcases List.mem_cons.1 h with h | h; exact absurd h.symm e; exact h)
      simp only [List.map_cons, List.sum_cons]; omega
theorem sum_sub {α : Type} [BEq α] [LawfulBEq α] (f : α → Nat) : ∀ {l m : List α}, l.Nodup → (∀ x ∈ l, x ∈ m) → (l.map f).sum ≤ (m.map f).sum
  | [], _, _, _ => Nat.zero_le _
  | x :: l, m, hn, h => by
    have hn' := List.nodup_cons.1 hn
    have hx := h x (by simp)
    rw [sum_erase f hx, List.map_cons, List.sum_cons]
    have := sum_sub f (l := l) (m := m.erase x) hn'.2 fun y hy => (List.mem_erase_of_ne (fun e => hn'.1 (by rw [← e]; exact hy))).2 (h y (by simp [hy]))
    omega
theorem nodup_of_map {α β : Type} {f : α → β} {l : List α} (h : (l.map f).Nodup) : l.Nodup := by
  induction l with
  | nil => exact List.nodup_nil
  | cons x r ih =>
    have := List.nodup_cons.1 h
    exact List.nodup_cons.2 ⟨fun hx => this.1 (List.mem_map_of_mem hx), ih this.2⟩
theorem fst_inj {l : Coms} (h : (l.map (·.1)).Nodup) {c d : Dig × List OpD} (hc : c ∈ l) (hd : d ∈ l) (he : c.1 = d.1) : c = d := by
  obtain ⟨i, hi⟩ := List.mem_iff_getElem?.1 hc
  obtain ⟨j, hj⟩ := List.mem_iff_getElem?.1 hd
  have h1 : (l.map (·.1))[i]? = some c.1 := by simp [hi]
  have h2 : (l.map (·.1))[j]? = some c.1 := by simp [hj, he]
  have := (List.getElem?_inj (by simpa using (List.getElem?_eq_some_iff.1 hi).1) h).1 (h1.trans h2.symm)
  subst this
  rw [hi] at hj; injection hj
theorem wrongN_first {e : List El} {ops : List OpD} : ∀ {k : Nat}, wrongN e ops k ≠ 0 → ∃ j x, j < k ∧ ops[j]? = some x ∧ wrongAt e ops j x ≠ 0
  | 0, h => absurd rfl h
  | k + 1, h => by
    by_cases h0 : wrongN e ops k = 0
    · cases hx : ops[k]? with
      | none => rw [wrongN, if_neg (by omega), hx] at h; exact absurd rfl h
      | some x => rw [wrongN_at hx h0] at h; exact ⟨k, x, by omega, hx, h⟩
    · obtain ⟨j, x, hj, hh⟩ := wrongN_first h0
      exact ⟨j, x, by omega, hh⟩
/-- A list of commits of which no one more can be added has all that another such list has. -/
theorem taken_sub {l : Coms} {L1 L2 : Coms} {T1 T2 : Tr} (h1 : TreeOk L1 T1) (h2 : TreeOk L2 T2) (hl : (l.map (·.1)).Nodup) (hs : (l.map fun c => insN c.2).sum ≤ 400000) (s1 : ∀ c ∈ L1, c ∈ l) (s2 : ∀ c ∈ L2, c ∈ l) (cl : ∀ c ∈ l, wrongC T2 c.1 c.2 ≠ 0) : ∀ c ∈ L1, c ∈ L2 := by
  have key : ∀ (P : Coms) (Q : Coms), L1 = P ++ Q → ∀ c ∈ P, c ∈ L2 := by
    intro P
    have hrev : ∀ (R : Coms) (Q : Coms), L1 = R.reverse ++ Q → ∀ c ∈ R, c ∈ L2 := by
      intro R
      induction R with
      | nil => intro Q _ c hc; cases hc
      | cons d R ih =>
        intro Q he
        rw [List.reverse_cons, List.append_assoc] at he
        have ih' := ih _ he
        intro c hc
        rcases List.mem_cons.1 hc with rfl | hc
        · have hc1 : c ∈ L1 := by rw [he]; simp
          have hcl := s1 c hc1
          by_cases hin : c.1 ∈ T2.ad
          · rw [h2.ads] at hin
            obtain ⟨d, hd, hde⟩ := List.mem_map.1 hin
            rw [← fst_inj hl (s2 d hd) hcl hde]; exact hd
          · exfalso
            have hw := cl c hcl
            have hnot : c ∉ L2 := fun h => hin (by rw [h2.ads]; exact List.mem_map_of_mem h)
            have hsum : (((c :: L2).map fun c => insN c.2).sum) ≤ 400000 := Nat.le_trans (sum_sub _ (List.nodup_cons.2 ⟨hnot, nodup_of_map h2.nodup⟩) fun x hx => by
              rcases List.mem_cons.1 hx with rfl | hx
              · exact hcl
              · exact s2 x hx) hs
            rw [List.map_cons, List.sum_cons] at hsum
            have hlen := h2.length
            have hf := h1.fit c hc1
            rw [wrongC, if_neg hin, if_neg (by omega)] at hw
            obtain ⟨j, x, hj, hx, hwx⟩ := wrongN_first hw
            unfold wrongAt at hwx
            rw [if_neg (by rw [hf.2 j x hx]; decide)] at hwx
            split at hwx
            · rename_i hk
              obtain ⟨b, p, s, hi⟩ := h1.seq R.reverse c Q (by rw [he]; rfl) x (List.mem_of_getElem? hx) hk.1
              have hi2 := ins_mem (L' := L2) (fun d hd => ih' d (List.mem_reverse.1 hd)) hi
              obtain ⟨y, hy, hn⟩ := (h2.built.names _).2 (.inr ⟨b, p, s, hi2⟩)
              exact atE_none.1 hk.2 y hy hn
            · exact hwx rfl
        · exact ih' c hc
    intro Q he c hc
    exact hrev P.reverse Q (by rw [List.reverse_reverse]; exact he) c (List.mem_reverse.2 hc)
  exact key L1 [] (by simp)
theorem wrongC_there {L : Coms} {T : Tr} (h : TreeOk L T) {c : Dig × List OpD} (hc : c ∈ L) : wrongC T c.1 c.2 = 6 := by
  rw [wrongC, if_pos (by rw [h.ads]; exact List.mem_map_of_mem hc)]
/-- The names and the text of what is shown. -/
theorem same_shown {L1 L2 : Coms} {T1 T2 : Tr} (h1 : TreeOk L1 T1) (h2 : TreeOk L2 T2) (hs : ∀ c, c ∈ L1 ↔ c ∈ L2) : (seenE T1.e).map (nm T1.e) = (seenE T2.e).map (nm T2.e) ∧ textE T1.e = textE T2.e ∧ T1.e.length = T2.e.length := by
  have hv := same_walk h1 h2 hs
  have hs1 := seen_view T1.e
  have hs2 := seen_view T2.e
  rw [hv, ← hs2] at hs1
  refine ⟨?_, ?_, ?_⟩
  · have := congrArg (List.map (·.1)) hs1
    rw [List.map_map, List.map_map] at this; exact this
  · have hb : ∀ e : List El, textE e = ((seenE e).map (viewE e)).map (·.2.2) := fun e => by
      rw [List.map_map, textE]
      refine List.map_congr_left fun i hi => ?_
      show byteAt e i = if goneAt e i = true then 0 else byteAt e i
      rw [seen_gone hi]; rfl
    rw [hb, hb, hs1]
  · have := congrArg List.length hv
    rw [List.length_map, List.length_map, h1.good.perm.length_eq, h2.good.perm.length_eq, List.length_range, List.length_range] at this; exact this
/-! ## A run of bytes at a gap -/
def runOps (at_ : RefD) (left : Bool) (s : List UInt8) : List OpD := s.mapIdx fun i b => if i = 0 then ⟨1, left, at_, b⟩ else ⟨1, false, ⟨true, Dig.zero, (i : Int)⟩, b⟩
theorem run_length {at_ : RefD} {left : Bool} {s : List UInt8} : (runOps at_ left s).length = s.length := by simp [runOps]
theorem run_get {at_ : RefD} {left : Bool} {s : List UInt8} {i : Nat} {b : UInt8} (h : s[i]? = some b) : (runOps at_ left s)[i]? = some (if i = 0 then ⟨1, left, at_, b⟩ else ⟨1, false, ⟨true, Dig.zero, (i : Int)⟩, b⟩) := by
  simp [runOps, List.getElem?_mapIdx, h]
theorem run_inv {at_ : RefD} {left : Bool} {s : List UInt8} {i : Nat} {x : OpD} (h : (runOps at_ left s)[i]? = some x) : ∃ b, s[i]? = some b ∧ x = if i = 0 then ⟨1, left, at_, b⟩ else ⟨1, false, ⟨true, Dig.zero, (i : Int)⟩, b⟩ := by
  have hi : i < s.length := by have := (List.getElem?_eq_some_iff.1 h).1; rwa [run_length] at this
  obtain ⟨b, hb⟩ : ∃ b, s[i]? = some b := ⟨_, List.getElem?_eq_getElem hi⟩
  rw [run_get hb] at h
  exact ⟨b, hb, (Option.some.inj h).symm⟩
/-- Nothing is wrong with a run at an element that is there. -/
theorem run_right {e : List El} {at_ : RefD} {left : Bool} {s : List UInt8} {a : Nat} (g : Good e) (ha : atE e at_ = some a) (hl : left = true → 0 < a) : wrongN e (runOps at_ left s) (runOps at_ left s).length = 0 := by
  have hz : ∀ j x, (runOps at_ left s)[j]? = some x → wrongAt e (runOps at_ left s) j x = 0 := by
    intro j x hx
    have hj := (List.getElem?_eq_some_iff.1 hx).1
    obtain ⟨z, hz, hn, _⟩ := atE_some.1 ha
    obtain ⟨b, hb, rfl⟩ := run_inv hx
    have hR : rightI (runOps at_ left s) ((j : Int) + 1) = 0 := by
      rw [rightI, if_neg (by omega), show (((j : Int) + 1) - 1).toNat = j by omega, hx]
      simp only [rightX, rootB, decide_eq_true_eq]
      by_cases h0 : j = 0
      · subst h0
        simp only [if_true]
        have ho := g.ownF hz
        rw [hn] at ho
        have href : refB at_ = true := by
          by_cases ha0 : a = 0
          · have := (g.zero hz).2 ha0
            rw [hn] at this; rw [this]; simp [refB, rootB, RefD.zero]
          · have := g.own a z (by omega) hz
            rw [hn] at this
            simp [refB, ho, this.2.2]; omega
        rw [if_neg (by rw [href]; decide), if_neg, if_neg (by omega), if_neg (by omega), if_neg (by rw [ho]; simp)]
        rintro ⟨_, h1, h2⟩
        have := hl h1
        have := (g.zero hz).1 (hn.trans h2)
        omega
      · have hk : kindAt (runOps at_ left s) ((j : Int) - 1).toNat = 1 := by
          rw [run_length] at hj
          obtain ⟨b', hb'⟩ : ∃ b, s[j - 1]? = some b := ⟨_, List.getElem?_eq_getElem (by omega)⟩
          rw [show ((j : Int) - 1).toNat = j - 1 by omega, kindAt, run_get hb']
          simp only [Option.map_some, Option.getD_some]
          split <;> rfl
        simp only [if_neg h0]
        rw [if_neg (by simp [refB]; omega), if_neg (by simp), if_neg (by simp), if_neg (by simp), if_neg (by rw [hk]; simp; omega)]
    unfold wrongAt
    rw [if_neg (by rw [hR]; decide)]
    refine if_neg fun hk => ?_
    by_cases h0 : j = 0
    · rw [if_pos h0] at hk
      rw [ha] at hk; cases hk.2
    · rw [if_neg h0] at hk
      have := (refKind_two hk.1).1
      cases this
  by_cases h : wrongN e (runOps at_ left s) (runOps at_ left s).length = 0
  · exact h
  · obtain ⟨j, x, _, hx, hw⟩ := wrongN_first h
    exact absurd (hz j x hx) hw
theorem flat_after {l X Y : List Nat} {a n : Nat} (hl : l = X ++ a :: Y) (hn : l.Nodup) : l.flatMap (fun j => if j = a then [a, n] else [j]) = X ++ a :: n :: Y := by
  have h1 : ∀ m : List Nat, a ∉ m → m.flatMap (fun j => if j = a then [a, n] else [j]) = m := fun m hm => by
    induction m with
    | nil => rfl
    | cons b r ih => rw [List.flatMap_cons, if_neg (fun e => hm (by simp [e])), ih fun h => hm (by simp [h])]; rfl
  rw [hl] at hn
  obtain ⟨_, h3, h4⟩ := List.nodup_append.1 hn
  rw [hl, List.flatMap_append, List.flatMap_cons, if_pos rfl, h1 X (fun h => h4 a h a (by simp) rfl), h1 Y (List.nodup_cons.1 h3).1]; rfl
theorem flat_ahead {l X Y : List Nat} {a n : Nat} (hl : l = X ++ a :: Y) (hn : l.Nodup) : l.flatMap (fun j => if j = a then [n, a] else [j]) = X ++ n :: a :: Y := by
  have h1 : ∀ m : List Nat, a ∉ m → m.flatMap (fun j => if j = a then [n, a] else [j]) = m := fun m hm => by
    induction m with
    | nil => rfl
    | cons b r ih => rw [List.flatMap_cons, if_neg (fun e => hm (by simp [e])), ih fun h => hm (by simp [h])]; rfl
  rw [hl] at hn
  obtain ⟨_, h3, h4⟩ := List.nodup_append.1 hn
  rw [hl, List.flatMap_append, List.flatMap_cons, if_pos rfl, h1 X (fun h => h4 a h a (by simp) rfl), h1 Y (List.nodup_cons.1 h3).1]; rfl
/-- Where the first one of a run comes to stand, all of it does. -/
theorem run_order {e : List El} {at_ : RefD} {left : Bool} {s : List UInt8} {id : Dig} {a : Nat} {L : Coms} (g : Good e) (hb : Built L e) (hid : id ∉ L.map (·.1)) (hl : s.length ≤ 2000) (ha : atE e at_ = some a) (hown : at_.own = false) (hw : wrongN e (runOps at_ left s) (runOps at_ left s).length = 0)
    {P Q : List Nat} (hP : orderE e = P ++ Q) (h1 : ∀ b, orderE (growE e a left ⟨false, id, 1⟩ b) = P ++ e.length :: Q) : ∀ k, k ≤ s.length → orderE (addN id (runOps at_ left s) e k) = P ++ List.range' e.length k ++ Q ∧ (addN id (runOps at_ left s) e k).length = e.length + k ∧
      (∀ (j : Nat), j < k → ∃ y : El, (addN id (runOps at_ left s) e k)[e.length + j]? = some y ∧ y.name = ⟨false, id, (j : Int) + 1⟩ ∧ s[j]? = some y.byte ∧ y.gone = false ∧ (j + 1 = k → y.right = [])) ∧
      (∀ (i : Nat) (x : El), e[i]? = some x → (addN id (runOps at_ left s) e k)[i]? = some (if 0 < k ∧ i = a then x.more e left ⟨false, id, 1⟩ else x))
  | 0, _ => ⟨by simp [addN, hP], by simp [addN], fun j hj => by omega, fun i x hx => by simpa [addN] using hx⟩
  | k + 1, hk => by
    obtain ⟨i1, i2, i3, i4⟩ := run_order g hb hid hl ha hown hw hP h1 k (by omega)
    obtain ⟨b, hbk⟩ : ∃ b, s[k]? = some b := ⟨_, List.getElem?_eq_getElem (by omega)⟩
    have hx := run_get (at_ := at_) (left := left) hbk
    obtain ⟨g', hb', hn'⟩ := add_upto g hb hid (by rw [run_length]; exact hl) hw k (by rw [run_length]; omega)
    have hnew := new_name hb' hid (by rw [run_length]; omega)
    have hae := atE_lt ha
    rw [addN_at hx]
    generalize hE : addN id (runOps at_ left s) e k = e1 at *
    have fin : ∀ (q : Nat) (lf : Bool), (k = 0 ∧ e1 = e ∧ q = a ∧ lf = left) ∨ (0 < k ∧ q = e.length + (k - 1)) → orderE (growE e1 q lf ⟨false, id, (k : Int) + 1⟩ b) = P ++ List.range' e.length (k + 1) ++ Q →
        orderE (growE e1 q lf ⟨false, id, (k : Int) + 1⟩ b) = P ++ List.range' e.length (k + 1) ++ Q ∧ (growE e1 q lf ⟨false, id, (k : Int) + 1⟩ b).length = e.length + (k + 1) ∧
        (∀ (j : Nat), j < k + 1 → ∃ y : El, (growE e1 q lf ⟨false, id, (k : Int) + 1⟩ b)[e.length + j]? = some y ∧ y.name = ⟨false, id, (j : Int) + 1⟩ ∧ s[j]? = some y.byte ∧ y.gone = false ∧ (j + 1 = k + 1 → y.right = [])) ∧
        (∀ (i : Nat) (x : El), e[i]? = some x → (growE e1 q lf ⟨false, id, (k : Int) + 1⟩ b)[i]? = some (if 0 < k + 1 ∧ i = a then x.more e left ⟨false, id, 1⟩ else x)) := by
      intro q lf hq ho
      have hq' : q < e1.length := by rw [i2]; rcases hq with ⟨_, _, rfl, _⟩ | ⟨_, rfl⟩ <;> omega
      refine ⟨ho, by rw [grow_length, i2]; omega, fun j hj => ?_, fun i x hx => ?_⟩
      · by_cases hjk : j = k
        · subst hjk
          have := grow_new (left := lf) (r := ⟨false, id, (j : Int) + 1⟩) (b := b) hq'
          rw [i2] at this
          exact ⟨_, this, rfl, hbk, rfl, fun _ => rfl⟩
        · obtain ⟨y, hy, h2, h3, h4, _⟩ := i3 j (by omega)
          refine ⟨_, grow_old hy, ?_⟩
          split
          · unfold El.more; split <;> exact ⟨h2, h3, h4, fun h => by omega⟩
          · exact ⟨h2, h3, h4, fun h => by omega⟩
      · have hi := (List.getElem?_eq_some_iff.1 hx).1
        rw [grow_old (i4 i x hx)]
        rcases hq with ⟨rfl, rfl, rfl, rfl⟩ | ⟨h0, rfl⟩
        · congr 1
          by_cases hia : i = q
          · subst hia; simp
          · simp [hia]
        · rw [if_neg (by omega)]
          congr 1
          by_cases hia : i = a
          · subst hia; simp [h0]
          · simp [hia]
    by_cases h0 : k = 0
    · subst h0
      have hee : e1 = e := by rw [← hE]; rfl
      have hs : stepE id e1 0 (if 0 = 0 then ⟨1, left, at_, b⟩ else ⟨1, false, ⟨true, Dig.zero, ((0 : Nat) : Int)⟩, b⟩) = growE e1 a left ⟨false, id, ((0 : Nat) : Int) + 1⟩ b := step_ins (x := ⟨1, left, at_, b⟩) (by simp only [res, hown]; rw [hee]; exact ha) rfl
      rw [hs]
      exact fin a left (.inl ⟨rfl, hee, rfl, rfl⟩) (by rw [hee]; have := h1 b; simpa using this)
    · obtain ⟨y, hy, hyn, _, _, hyr⟩ := i3 (k - 1) (by omega)
      have hyn' : y.name = ⟨false, id, (k : Int)⟩ := by rw [hyn]; congr 1; omega
      have hat : atE e1 (res id ⟨true, Dig.zero, (k : Int)⟩) = some (e.length + (k - 1)) := by
        have := g'.find hy
        rw [hyn'] at this; exact this
      rw [if_neg h0, step_ins (x := ⟨1, false, ⟨true, Dig.zero, (k : Int)⟩, b⟩) hat rfl]
      refine fin _ _ (.inr ⟨by omega, rfl⟩) ?_
      have hkid : kid e1 ⟨false, id, (k : Int) + 1⟩ y.right = e1.length :: y.right := by
        rw [hyr (by omega)]; rfl
      have := grow_right (r := ⟨false, id, (k : Int) + 1⟩) (b := b) g'.down (atE_lt hat) hy hkid 0 g'.pos
      show walkE _ 0 = _
      rw [this]
      have h5 : List.range' e.length k = List.range' e.length (k - 1) ++ [e.length + (k - 1)] := by
        have : k = (k - 1) + 1 := by omega
        rw [this, List.range'_concat]; simp
      have hsplit : walkE e1 0 = (P ++ List.range' e.length (k - 1)) ++ (e.length + (k - 1)) :: Q := by
        have h6 : walkE e1 0 = P ++ List.range' e.length k ++ Q := i1
        rw [h6, h5]; simp
      rw [flat_after hsplit g'.nodup, i2, List.range'_concat, h5]; simp
/-- What some places show. -/
def shown (e : List El) (l : List Nat) : List UInt8 := (l.filter fun i => !goneAt e i).map (byteAt e)
theorem shown_app {e : List El} {a b : List Nat} : shown e (a ++ b) = shown e a ++ shown e b := by simp [shown]
theorem shown_same {e e' : List El} {l : List Nat} (h : ∀ i ∈ l, goneAt e' i = goneAt e i ∧ byteAt e' i = byteAt e i) : shown e' l = shown e l := by
  induction l with
  | nil => rfl
  | cons a r ih =>
    have ha := h a (by simp)
    have hr := ih fun i hi => h i (by simp [hi])
    simp only [shown, List.filter_cons, ha.1] at hr ⊢
    split
    · simp only [List.map_cons, ha.2, hr]
    · exact hr
theorem more_same (x : El) (e : List El) (s : Bool) (r : RefD) : (x.more e s r).name = x.name ∧ (x.more e s r).byte = x.byte ∧ (x.more e s r).gone = x.gone := by unfold El.more; split <;> exact ⟨rfl, rfl, rfl⟩
theorem run_shown {e' : List El} {s : List UInt8} {id : Dig} {n : Nat} (h : ∀ (j : Nat), j < s.length → ∃ y : El, e'[n + j]? = some y ∧ y.name = ⟨false, id, (j : Int) + 1⟩ ∧ s[j]? = some y.byte ∧ y.gone = false) : shown e' (List.range' n s.length) = s := by
  have key : ∀ k, k ≤ s.length → shown e' (List.range' n k) = s.take k := by
    intro k
    induction k with
    | zero => intro _; simp [shown]
    | succ k ih =>
      intro hk
      obtain ⟨y, hy, _, hb, hg⟩ := h k (by omega)
      rw [List.range'_concat, shown_app, ih (by omega), Nat.one_mul]
      have : shown e' [n + k] = [y.byte] := by simp [shown, goneAt_at hy, byteAt_at hy, hg]
      rw [this, List.take_add_one, hb]; rfl
  have := key s.length (Nat.le_refl _)
  rwa [List.take_length] at this
/-- A run's first element stands at a place of the walk: its text does. -/
theorem run_text {e : List El} {at_ : RefD} {left : Bool} {s : List UInt8} {id : Dig} {a : Nat} {L : Coms} (g : Good e) (hb : Built L e) (hid : id ∉ L.map (·.1)) (hl : s.length ≤ 2000) (ha : atE e at_ = some a) (hown : at_.own = false) (hw : wrongN e (runOps at_ left s) (runOps at_ left s).length = 0)
    {P Q : List Nat} (hP : orderE e = P ++ Q) (h1 : ∀ b, orderE (growE e a left ⟨false, id, 1⟩ b) = P ++ e.length :: Q) : textE (addN id (runOps at_ left s) e (runOps at_ left s).length) = shown e P ++ s ++ shown e Q := by
  rw [run_length]
  obtain ⟨h2, h3, h4, h5⟩ := run_order g hb hid hl ha hown hw hP h1 s.length (Nat.le_refl _)
  have hold : ∀ i, i < e.length → goneAt (addN id (runOps at_ left s) e s.length) i = goneAt e i ∧ byteAt (addN id (runOps at_ left s) e s.length) i = byteAt e i := fun i hi => by
    obtain ⟨x, hx⟩ : ∃ x, e[i]? = some x := ⟨_, List.getElem?_eq_getElem hi⟩
    rw [goneAt_at (h5 i x hx), goneAt_at hx, byteAt_at (h5 i x hx), byteAt_at hx]
    split
    · exact ⟨(more_same x _ _ _).2.2, (more_same x _ _ _).2.1⟩
    · exact ⟨rfl, rfl⟩
  have hin : ∀ i ∈ P ++ Q, i < e.length := fun i hi => order_lt g.down (by rw [hP]; exact hi)
  show shown _ (orderE _) = _
  rw [h2, shown_app, shown_app, run_shown (id := id) fun j hj => by obtain ⟨y, h⟩ := h4 j hj; exact ⟨y, h.1, h.2.1, h.2.2.1, h.2.2.2.1⟩,
    shown_same (e := e) (l := P) fun i hi => hold i (hin i (by simp [hi])), shown_same (e := e) (l := Q) fun i hi => hold i (hin i (by simp [hi]))]
/-- Nothing stands on the root's left. -/
theorem root_left {L : Coms} {T : Tr} (h : TreeOk L T) {z : El} (hz : T.e[0]? = some z) : z.left = [] := by
  cases hl : z.left with
  | nil => rfl
  | cons c r =>
    exfalso
    obtain ⟨b, id, ops, k, x, hm, hx, _, _, _, hp, hs⟩ := (h.built.left z (List.mem_of_getElem? hz) (nm T.e c)).1 (by simp [hl])
    have hz0 := (h.good.zero hz).2 rfl
    rw [hz0] at hp
    have R := right_op hx ((h.fit _ hm).2 k x hx)
    have hat : x.at_ = RefD.zero := by
      by_cases ho : x.at_.own = true
      · rw [res, if_pos ho] at hp
        have := (R.own ho).1
        injection hp with _ _ hp; omega
      · rw [res, if_neg ho] at hp; exact hp.symm
    rcases R.kind with ⟨_, h1⟩ | ⟨_, h1, _⟩
    · exact h1 hs.symm hat
    · exact h1 hat
/-- The walk parts behind the element of a gap, and the text there. -/
theorem gap_split {L : Coms} {T : Tr} (h : TreeOk L T) {n : Nat} (hn : n ≤ (seenE T.e).length) : ∃ X Y, orderE T.e = X ++ gapI T.e n :: Y ∧ gapI T.e n < T.e.length ∧ shown T.e (X ++ [gapI T.e n]) = (textE T.e).take n ∧ shown T.e Y = (textE T.e).drop n := by
  have fin : ∀ X Y a, orderE T.e = X ++ a :: Y → (shown T.e (X ++ [a])).length = n → shown T.e (X ++ [a]) = (textE T.e).take n ∧ shown T.e Y = (textE T.e).drop n := fun X Y a ho hl => by
    have ht : textE T.e = shown T.e (X ++ [a]) ++ shown T.e Y := by
      show shown T.e (orderE T.e) = _
      rw [ho, ← shown_app]; simp
    rw [ht, ← hl]; simp
  by_cases h0 : n = 0
  · subst h0
    obtain ⟨z, hz, hzn, hzg⟩ := h.good.root
    have hl := root_left h hz
    have ho : orderE T.e = [] ++ 0 :: z.right.flatMap (walkE T.e) := by rw [orderE, walkE_eq h.good.down hz, hl]; rfl
    have hg0 : gapI T.e ((0 : Nat) : Int) = 0 := by simp [gapI]
    rw [hg0]
    exact ⟨[], _, ho, h.good.pos, fin _ _ _ ho (by simp [shown, goneAt_at hz, hzg])⟩
  · obtain ⟨a, ha⟩ : ∃ a, (seenE T.e)[n - 1]? = some a := ⟨_, List.getElem?_eq_getElem (by omega)⟩
    have hg : gapI T.e (n : Int) = a := by rw [gapI, if_neg (by omega), show ((n : Int) - 1).toNat = n - 1 by omega, ha]; rfl
    have hm := List.mem_of_getElem? ha
    obtain ⟨X, Y, ho⟩ := List.append_of_mem (List.mem_filter.1 hm).1
    rw [hg]
    refine ⟨X, Y, ho, seen_lt h.good.down hm, fin X Y a ho ?_⟩
    have hs : seenE T.e = (X.filter fun i => !goneAt T.e i) ++ a :: (Y.filter fun i => !goneAt T.e i) := by
      rw [seenE, ho, List.filter_append, List.filter_cons, if_pos (by rw [seen_gone hm]; rfl)]
    have hk : (X.filter fun i => !goneAt T.e i).length = n - 1 := by
      have h1 : (seenE T.e)[(X.filter fun i => !goneAt T.e i).length]? = some a := by rw [hs]; simp
      exact ((List.getElem?_inj (by have := (List.getElem?_eq_some_iff.1 ha).1; exact this) h.good.seen_nodup).1 (ha.trans h1.symm)).symm
    simp only [shown, List.length_map, List.filter_append, List.length_append, hk]
    simp [seen_gone hm]; omega
/-- The gap's element, and that a new one there stands behind. -/
theorem gap_first {L : Coms} {T : Tr} (h : TreeOk L T) {a : Nat} {X Y : List Nat} (ho : orderE T.e = X ++ a :: Y) (ha : a < T.e.length) : ∃ A z, atE T.e (gapAt T.e a).1 = some A ∧ T.e[A]? = some z ∧ z.name = (gapAt T.e a).1 ∧ (gapAt T.e a).1.own = false ∧ ((gapAt T.e a).2 = true → 0 < A) ∧
    (((gapAt T.e a).2 = false ∧ A = a ∧ z.right = []) ∨ ((gapAt T.e a).2 = true ∧ z.left = [] ∧ ∃ Y', Y = A :: Y')) := by
  obtain ⟨x, hx⟩ : ∃ x, T.e[a]? = some x := ⟨_, List.getElem?_eq_getElem ha⟩
  have hd := h.good.down a x hx
  cases hr : x.right with
  | nil =>
    have hg : gapAt T.e a = (x.name, false) := by rw [gapAt, hx]; simp only [Option.map_some, Option.getD_some, hr]; rw [nm_at hx]
    rw [hg]
    exact ⟨a, x, h.good.find hx, hx, rfl, h.good.ownF hx, (fun h => by cases h), .inl ⟨rfl, rfl, hr⟩⟩
  | cons c r =>
    have hg : gapAt T.e a = (nm T.e (lmE T.e c), true) := by rw [gapAt, hx]; simp only [Option.map_some, Option.getD_some, hr]
    have hc := hd c (.inr (by simp [hr]))
    obtain ⟨hlt, hleft⟩ := lm_left h.good.down c hc.2
    obtain ⟨z, hz⟩ : ∃ z, T.e[lmE T.e c]? = some z := ⟨_, List.getElem?_eq_getElem hlt⟩
    rw [hz] at hleft
    obtain ⟨Y', hY⟩ := order_fol h.good.down (a := a) (c := c) (r := r) (by rw [hx]; simp [hr]) 0 h.good.pos X Y ho
    have hpos : 0 < lmE T.e c := by
      by_cases h0 : lmE T.e c = 0
      · exfalso
        have h1 : lmE T.e c ∈ Y := by rw [hY]; simp
        obtain ⟨w, hw, _⟩ := h.good.root
        have h2 : ∃ Y0, orderE T.e = 0 :: Y0 := ⟨w.right.flatMap (walkE T.e), by rw [orderE, walkE_eq h.good.down hw, root_left h hw]; rfl⟩
        obtain ⟨Y0, h2⟩ := h2
        have hnd := h.good.nodup
        rw [ho] at h2 hnd
        cases X with
        | nil => simp at h2; rw [h0, ← h2.1] at h1; exact (List.nodup_cons.1 hnd).1 h1
        | cons p X =>
          simp at h2
          have := (List.nodup_cons.1 hnd).1
          rw [h2.1] at this
          rw [h0] at h1
          exact this (by simp [h1])
      · omega
    rw [hg]
    exact ⟨_, z, by rw [nm_at hz]; exact h.good.find hz, hz, (nm_at hz).symm, by rw [nm_at hz]; exact h.good.ownF hz, fun _ => hpos, .inr ⟨rfl, hleft, Y', hY⟩⟩
/-- A run at a gap stands there. -/
theorem insert_text {L : Coms} {T : Tr} (h : TreeOk L T) {n : Nat} (hn : n ≤ (seenE T.e).length) {s : List UInt8} {id : Dig} :
    (wrongC T id (runOps (gapE T.e n).1 (gapE T.e n).2.1 s) = 0 ∨ wrongC T id (runOps (gapE T.e n).1 (gapE T.e n).2.1 s) = 6 ∨ wrongC T id (runOps (gapE T.e n).1 (gapE T.e n).2.1 s) = 4) ∧ (wrongC T id (runOps (gapE T.e n).1 (gapE T.e n).2.1 s) = 0 →
    textE (addT T id (runOps (gapE T.e n).1 (gapE T.e n).2.1 s)).e = (textE T.e).take n ++ s ++ (textE T.e).drop n) := by
  have hg : gapE T.e n = ((gapAt T.e (gapI T.e n)).1, (gapAt T.e (gapI T.e n)).2, true) := by rw [gapE, if_neg (by omega)]
  rw [hg]
  obtain ⟨X, Y, ho, ha, hX, hY⟩ := gap_split h hn
  obtain ⟨A, z, hA, hz, _, hown, hpos, hcase⟩ := gap_first h ho ha
  have hw := run_right (s := s) h.good hA hpos
  constructor
  · unfold wrongC
    split
    · exact .inr (.inl rfl)
    · split
      · exact .inr (.inr rfl)
      · exact .inl hw
  · intro hz0
    obtain ⟨h1, h2, _, _⟩ := wrongC_zero hz0
    rw [addT, if_pos hz0]
    show textE (addN id _ T.e _) = _
    rw [← hX, ← hY]
    rw [run_length] at h2
    have hAl := atE_lt hA
    refine run_text h.good h.built (by rw [← h.ads]; exact h1) h2 hA hown hw (by rw [ho]; simp) fun b => ?_
    rcases hcase with ⟨hl, rfl, hr⟩ | ⟨hl, hzl, Y', rfl⟩
    · rw [hl, orderE, grow_right h.good.down hAl hz (by rw [hr]; rfl) 0 h.good.pos, flat_after ho h.good.nodup]; simp
    · rw [hl, orderE, grow_left h.good.down hAl hz (by rw [hzl]; rfl) 0 h.good.pos, flat_ahead (X := X ++ [gapI T.e n]) (Y := Y') (by rw [← List.append_cons]; exact ho) h.good.nodup]
end Go.Fu
namespace Go.Fu
open Go.Fw Go.Pl
/-! ## Two runs at one gap -/
theorem TreeOk.keepAt {L L' : Coms} {T T' : Tr} (h : TreeOk L T) (h' : TreeOk L' T') (hs : ∀ c ∈ L, c ∈ L') {r : RefD} {A : Nat} (hA : atE T.e r = some A) : ∃ A', atE T'.e r = some A' ∧ (0 < A → 0 < A') := by
  have hn : ∃ x ∈ T'.e, x.name = r := by
    rw [h'.built.names]
    rcases (h.built.names r).1 (atE_mem hA) with hz | ⟨b, p, s, hi⟩
    · exact .inl hz
    · exact .inr ⟨b, p, s, ins_mem hs hi⟩
  obtain ⟨A', hA'⟩ := atE_is hn
  refine ⟨A', hA', fun h0 => ?_⟩
  obtain ⟨x, hx, hxn, _⟩ := atE_some.1 hA
  obtain ⟨y, hy, hyn, _⟩ := atE_some.1 hA'
  by_cases h1 : A' = 0
  · have := (h'.good.zero hy).2 h1
    rw [hyn, ← hxn] at this
    have := (h.good.zero hx).1 this
    omega
  · omega
theorem two_text {L : Coms} {T : Tr} (h : TreeOk L T) {n : Nat} (hn : n ≤ (seenE T.e).length) {s0 s1 : List UInt8} {id0 id1 : Dig}
    (w0 : wrongC T id0 (runOps (gapE T.e n).1 (gapE T.e n).2.1 s0) = 0) (w1 : wrongC (addT T id0 (runOps (gapE T.e n).1 (gapE T.e n).2.1 s0)) id1 (runOps (gapE T.e n).1 (gapE T.e n).2.1 s1) = 0)
    (hc : s0 ≠ [] → ((gapE T.e n).2.1 = false ∧ nameLt ⟨false, id1, 1⟩ ⟨false, id0, 1⟩ = true) ∨ ((gapE T.e n).2.1 = true ∧ nameLt ⟨false, id0, 1⟩ ⟨false, id1, 1⟩ = true)) :
    textE (addT (addT T id0 (runOps (gapE T.e n).1 (gapE T.e n).2.1 s0)) id1 (runOps (gapE T.e n).1 (gapE T.e n).2.1 s1)).e = (textE T.e).take n ++ s0 ++ s1 ++ (textE T.e).drop n ∨
    textE (addT (addT T id0 (runOps (gapE T.e n).1 (gapE T.e n).2.1 s0)) id1 (runOps (gapE T.e n).1 (gapE T.e n).2.1 s1)).e = (textE T.e).take n ++ s1 ++ s0 ++ (textE T.e).drop n := by
  have hg : gapE T.e n = ((gapAt T.e (gapI T.e n)).1, (gapAt T.e (gapI T.e n)).2, true) := by rw [gapE, if_neg (by omega)]
  by_cases h0 : s0 = []
  · subst h0
    have h1 := h.add w0
    have he : addT T id0 (runOps (gapE T.e n).1 (gapE T.e n).2.1 []) = ⟨T.ad ++ [id0], T.e⟩ := by rw [addT, if_pos w0]; rfl
    rw [he] at h1 w1 ⊢
    have := (insert_text h1 hn (s := s1) (id := id1)).2 w1
    left
    rw [List.append_nil]; exact this
  rw [hg] at w0 w1 hc ⊢
  simp only at w0 w1 hc ⊢
  obtain ⟨X, Y, ho, ha, hX, hY⟩ := gap_split h hn
  obtain ⟨A, z, hA, hz, hzn, hown, hpos, hcase⟩ := gap_first h ho ha
  generalize gapI T.e n = a at *
  generalize (gapAt T.e a).1 = at_ at *
  generalize (gapAt T.e a).2 = left at *
  have hAl := atE_lt hA
  obtain ⟨i1, i2, _, i4⟩ := wrongC_zero w0
  rw [run_length] at i2
  have hid0 : id0 ∉ L.map (·.1) := by rw [← h.ads]; exact i1
  have hP : orderE T.e = (X ++ [a]) ++ Y := by rw [ho]; simp
  have h1st : ∀ b, orderE (growE T.e A left ⟨false, id0, 1⟩ b) = (X ++ [a]) ++ T.e.length :: Y := fun b => by
    rcases hcase with ⟨hl, rfl, hr⟩ | ⟨hl, hzl, Y', rfl⟩
    · rw [hl, orderE, grow_right h.good.down hAl hz (by rw [hr]; rfl) 0 h.good.pos, flat_after ho h.good.nodup]; simp
    · rw [hl, orderE, grow_left h.good.down hAl hz (by rw [hzl]; rfl) 0 h.good.pos, flat_ahead (X := X ++ [a]) (Y := Y') (by rw [← List.append_cons]; exact ho) h.good.nodup]
  obtain ⟨o1, l1, n1, k1⟩ := run_order h.good h.built hid0 i2 hA hown i4 hP h1st s0.length (Nat.le_refl _)
  have T1 := h.add w0
  have e1eq : (addT T id0 (runOps at_ left s0)).e = addN id0 (runOps at_ left s0) T.e s0.length := by rw [addT, if_pos w0, run_length]
  generalize addT T id0 (runOps at_ left s0) = U at *
  rw [← e1eq] at o1 l1 n1 k1
  have hlen : 0 < s0.length := List.length_pos_iff.2 h0
  have hzA := k1 A z hz
  rw [if_pos ⟨hlen, rfl⟩] at hzA
  have hA1 : atE U.e at_ = some A := by
    have := T1.good.find hzA
    rw [(more_same z _ _ _).1, hzn] at this; exact this
  obtain ⟨j1, j2, _, j4⟩ := wrongC_zero w1
  rw [run_length] at j2
  obtain ⟨y0, hy0, hy0n, _⟩ := n1 0 hlen
  have hnm0 : nm U.e T.e.length = ⟨false, id0, 1⟩ := by
    have := nm_at hy0
    rw [Nat.add_zero] at this
    rw [this, hy0n]; congr 1
  have hold : ∀ i, i < T.e.length → goneAt U.e i = goneAt T.e i ∧ byteAt U.e i = byteAt T.e i := fun i hi => by
    obtain ⟨x, hx⟩ : ∃ x, T.e[i]? = some x := ⟨_, List.getElem?_eq_getElem hi⟩
    rw [goneAt_at (k1 i x hx), goneAt_at hx, byteAt_at (k1 i x hx), byteAt_at hx]
    split
    · exact ⟨(more_same x _ _ _).2.2, (more_same x _ _ _).2.1⟩
    · exact ⟨rfl, rfl⟩
  have hin : ∀ i ∈ (X ++ [a]) ++ Y, i < T.e.length := fun i hi => order_lt h.good.down (by rw [hP]; exact hi)
  have sX : shown U.e (X ++ [a]) = (textE T.e).take n := (shown_same fun i hi => hold i (hin i (List.mem_append_left _ hi))).trans hX
  have sY : shown U.e Y = (textE T.e).drop n := (shown_same fun i hi => hold i (hin i (List.mem_append_right _ hi))).trans hY
  have sR : shown U.e (List.range' T.e.length s0.length) = s0 := run_shown (id := id0) fun j hj => by obtain ⟨y, h⟩ := n1 j hj; exact ⟨y, h.1, h.2.1, h.2.2.1, h.2.2.2.1⟩
  have hid1 : id1 ∉ (L ++ [(id0, runOps at_ left s0)]).map (·.1) := by rw [← T1.ads]; exact j1
  rw [addT, if_pos w1]
  show textE (addN id1 _ U.e _) = _ ∨ textE (addN id1 _ U.e _) = _
  have hUl := atE_lt hA1
  rcases hcase with ⟨hl, rfl, hr⟩ | ⟨hl, hzl, Y', rfl⟩
  · right
    have hlt : nameLt ⟨false, id1, 1⟩ ⟨false, id0, 1⟩ = true := by
      rcases hc h0 with ⟨_, h⟩ | ⟨h, _⟩
      · exact h
      · rw [hl] at h; cases h
    subst hl
    have hzr : (z.more T.e false ⟨false, id0, 1⟩).right = [T.e.length] := by
      show kid T.e _ z.right = _
      rw [hr]; rfl
    have hkid : kid U.e ⟨false, id1, 1⟩ (z.more T.e false ⟨false, id0, 1⟩).right = U.e.length :: (z.more T.e false ⟨false, id0, 1⟩).right := by
      rw [hzr, kid, putN, hnm0, if_pos hlt]
    rw [run_text T1.good T1.built hid1 j2 hA1 hown j4 (P := X ++ [A]) (Q := List.range' T.e.length s0.length ++ Y) (by rw [o1]; simp) (fun b => ?_), sX, shown_app, sR, sY]
    · simp
    · rw [orderE, grow_right T1.good.down hUl hzA hkid 0 T1.good.pos, flat_after (X := X) (Y := List.range' T.e.length s0.length ++ Y) (by show orderE U.e = _; rw [o1]; simp) T1.good.nodup]; simp
  · left
    have hlt : nameLt ⟨false, id0, 1⟩ ⟨false, id1, 1⟩ = true := by
      rcases hc h0 with ⟨h, _⟩ | ⟨_, h⟩
      · rw [hl] at h; cases h
      · exact h
    subst hl
    have hzr : (z.more T.e true ⟨false, id0, 1⟩).left = [T.e.length] := by
      show kid T.e _ z.left = _
      rw [hzl]; rfl
    have hkid : kid U.e ⟨false, id1, 1⟩ (z.more T.e true ⟨false, id0, 1⟩).left = (z.more T.e true ⟨false, id0, 1⟩).left ++ [U.e.length] := by
      rw [hzr, kid, putN, hnm0, if_neg (by rw [nlt_asymm hlt]; decide)]; rfl
    rw [run_text T1.good T1.built hid1 j2 hA1 hown j4 (P := X ++ [a] ++ List.range' T.e.length s0.length) (Q := A :: Y') (by rw [o1]) (fun b => ?_), shown_app, sX, sR, sY]
    rw [orderE, grow_left T1.good.down hUl hzA hkid 0 T1.good.pos, flat_ahead (X := X ++ [a] ++ List.range' T.e.length s0.length) (Y := Y') (by show orderE U.e = _; rw [o1]) T1.good.nodup]
theorem insN_run {at_ : RefD} {left : Bool} {s : List UInt8} : insN (runOps at_ left s) = s.length := by
  rw [insN, List.countP_eq_length.2, run_length]
  intro x hx
  obtain ⟨i, hi⟩ := List.mem_iff_getElem?.1 hx
  obtain ⟨b, _, rfl⟩ := run_inv hi
  split <;> rfl
/-- Two runs at one gap stand there one behind the other, whichever came first. -/
theorem apart_text {L : Coms} {T : Tr} (h : TreeOk L T) {n : Nat} (hn : n ≤ (seenE T.e).length) {s0 s1 : List UInt8} {id0 id1 : Dig} (hne : id0 ≠ id1)
    (w0 : wrongC T id0 (runOps (gapE T.e n).1 (gapE T.e n).2.1 s0) = 0) (w1 : wrongC (addT T id0 (runOps (gapE T.e n).1 (gapE T.e n).2.1 s0)) id1 (runOps (gapE T.e n).1 (gapE T.e n).2.1 s1) = 0) :
    (textE (addT (addT T id0 (runOps (gapE T.e n).1 (gapE T.e n).2.1 s0)) id1 (runOps (gapE T.e n).1 (gapE T.e n).2.1 s1)).e = (textE T.e).take n ++ s0 ++ s1 ++ (textE T.e).drop n ∨
    textE (addT (addT T id0 (runOps (gapE T.e n).1 (gapE T.e n).2.1 s0)) id1 (runOps (gapE T.e n).1 (gapE T.e n).2.1 s1)).e = (textE T.e).take n ++ s1 ++ s0 ++ (textE T.e).drop n) ∧
    textE (addT (addT T id1 (runOps (gapE T.e n).1 (gapE T.e n).2.1 s1)) id0 (runOps (gapE T.e n).1 (gapE T.e n).2.1 s0)).e = textE (addT (addT T id0 (runOps (gapE T.e n).1 (gapE T.e n).2.1 s0)) id1 (runOps (gapE T.e n).1 (gapE T.e n).2.1 s1)).e := by
  have hg : gapE T.e n = ((gapAt T.e (gapI T.e n)).1, (gapAt T.e (gapI T.e n)).2, true) := by rw [gapE, if_neg (by omega)]
  obtain ⟨X, Y, ho, ha, _, _⟩ := gap_split h hn
  obtain ⟨A, z, hA, hz, hzn, hown, hpos, _⟩ := gap_first h ho ha
  have hA' : atE T.e (gapE T.e n).1 = some A := by rw [hg]; exact hA
  have hpos' : (gapE T.e n).2.1 = true → 0 < A := by rw [hg]; exact hpos
  obtain ⟨i1, i2, i3, i4⟩ := wrongC_zero w0
  obtain ⟨j1, j2, j3, j4⟩ := wrongC_zero w1
  have T1 := h.add w0
  have l1 := T1.length
  have l0 := h.length
  rw [List.map_append, List.sum_append, List.map_cons, List.map_nil, List.sum_cons, List.sum_nil, insN_run] at l1
  rw [insN_run] at i3 j3
  have had : (addT T id0 (runOps (gapE T.e n).1 (gapE T.e n).2.1 s0)).ad = T.ad ++ [id0] := by rw [addT, if_pos w0]
  rw [had] at j1
  have v1 : wrongC T id1 (runOps (gapE T.e n).1 (gapE T.e n).2.1 s1) = 0 := by
    rw [wrongC, if_neg (fun hh => j1 (by simp [hh])), if_neg (by rw [insN_run]; omega)]
    exact run_right h.good hA' hpos'
  have U1 := h.add v1
  have m1 := U1.length
  rw [List.map_append, List.sum_append, List.map_cons, List.map_nil, List.sum_cons, List.sum_nil, insN_run] at m1
  obtain ⟨B, hB, hBp⟩ := h.keepAt U1 (fun c hc => by simp [hc]) hA'
  have hud : (addT T id1 (runOps (gapE T.e n).1 (gapE T.e n).2.1 s1)).ad = T.ad ++ [id1] := by rw [addT, if_pos v1]
  have v0 : wrongC (addT T id1 (runOps (gapE T.e n).1 (gapE T.e n).2.1 s1)) id0 (runOps (gapE T.e n).1 (gapE T.e n).2.1 s0) = 0 := by
    rw [wrongC, if_neg (by rw [hud]; simp [i1, hne]), if_neg (by rw [insN_run]; omega)]
    exact run_right U1.good hB fun hh => hBp (hpos' hh)
  have T2 := T1.add w1
  have U2 := U1.add v0
  have hsame := (same_shown U2 T2 fun c => by simp only [List.mem_append, List.mem_cons, List.not_mem_nil, or_false]; constructor <;> (rintro ((h | h) | h) <;> simp [h])).2.1
  refine ⟨?_, hsame⟩
  have hnn : nameLt ⟨false, id0, 1⟩ ⟨false, id1, 1⟩ = true ∨ nameLt ⟨false, id1, 1⟩ ⟨false, id0, 1⟩ = true := by
    cases h1 : nameLt ⟨false, id0, 1⟩ ⟨false, id1, 1⟩ with
    | true => exact .inl rfl
    | false =>
      cases h2 : nameLt ⟨false, id1, 1⟩ ⟨false, id0, 1⟩ with
      | true => exact .inr rfl
      | false => have := nlt_tri (a := ⟨false, id0, 1⟩) (b := ⟨false, id1, 1⟩) rfl h1 h2; injection this with _ hh; exact absurd hh hne
  have hside : (gapE T.e n).2.1 = false ∨ (gapE T.e n).2.1 = true := by cases (gapE T.e n).2.1 <;> simp
  have fwd := two_text h hn w0 w1
  have bwd := two_text h hn v1 v0
  rcases hnn with hlt | hlt <;> rcases hside with hsd | hsd
  · rw [← hsame]; exact (bwd fun _ => .inl ⟨hsd, hlt⟩).symm
  · exact fwd fun _ => .inr ⟨hsd, hlt⟩
  · exact fwd fun _ => .inl ⟨hsd, hlt⟩
  · rw [← hsame]; exact (bwd fun _ => .inr ⟨hsd, hlt⟩).symm
/-! ## A deletion -/
theorem gone_seen {e : List El} {a : Nat} : seenE (goneE e a) = (seenE e).filter fun i => decide (i ≠ a) := by
  rw [seenE, orderE, gone_walk, seenE, List.filter_filter]
  refine List.filter_congr fun i _ => ?_
  rw [goneAt, goneAt, gone_at]
  cases hx : e[i]? with
  | none => simp
  | some x =>
    simp only [Option.map_some, Option.getD_some]
    by_cases h : i = a
    · subst h; simp
    · rw [if_neg h]; simp [h]
theorem gone_byte {e : List El} {a i : Nat} : byteAt (goneE e a) i = byteAt e i := by
  rw [byteAt, byteAt, gone_at]
  cases e[i]? with
  | none => rfl
  | some x => simp only [Option.map_some]; split <;> rfl
theorem filter_ne_at {l : List Nat} (hn : l.Nodup) : ∀ {n a : Nat}, l[n]? = some a → l.filter (fun i => decide (i ≠ a)) = l.take n ++ l.drop (n + 1) := by
  induction l with
  | nil => intro n a h; simp at h
  | cons x r ih =>
    intro n a h
    have hn' := List.nodup_cons.1 hn
    cases n with
    | zero =>
      simp at h; subst h
      rw [List.filter_cons, if_neg (by simp)]
      simp only [List.take_zero, List.nil_append, List.drop_succ_cons, List.drop_zero]
      exact List.filter_eq_self.2 fun y hy => by simp; rintro rfl; exact hn'.1 hy
    | succ n =>
      have h' : r[n]? = some a := by simpa using h
      have hxa : x ≠ a := fun e => hn'.1 (by rw [e]; exact List.mem_of_getElem? h')
      rw [List.filter_cons, if_pos (by simpa using hxa), ih hn'.2 h']; rfl
def delOps (r : RefD) : List OpD := [⟨2, false, r, 0⟩]
theorem delete_tree {L : Coms} {T : Tr} (h : TreeOk L T) {i : Nat} (hi : i < T.e.length) {id : Dig} (hw : wrongC T id (delOps (nm T.e i)) = 0) : (addT T id (delOps (nm T.e i))).e = goneE T.e i := by
  obtain ⟨x, hx⟩ : ∃ x, T.e[i]? = some x := ⟨_, List.getElem?_eq_getElem hi⟩
  rw [addT, if_pos hw]
  show stepE id T.e 0 ⟨2, false, nm T.e i, 0⟩ = _
  refine step_del ?_ rfl
  have ho := h.good.ownF hx
  rw [nm_at hx]
  simp only [res, ho]
  exact h.good.find hx
theorem delete_text {L : Coms} {T : Tr} (h : TreeOk L T) {n i : Nat} (hi : (seenE T.e)[n]? = some i) {id : Dig} (hw : wrongC T id (delOps (nm T.e i)) = 0) :
    textE (addT T id (delOps (nm T.e i))).e = (textE T.e).take n ++ (textE T.e).drop (n + 1) ∧ placeE (addT T id (delOps (nm T.e i))).e (nm T.e i) = none ∧ hasE (addT T id (delOps (nm T.e i))).e (nm T.e i) = true ∧
    ∀ id', seenE (addT (addT T id (delOps (nm T.e i))) id' (delOps (nm T.e i))).e = seenE (addT T id (delOps (nm T.e i))).e ∧ textE (addT (addT T id (delOps (nm T.e i))) id' (delOps (nm T.e i))).e = textE (addT T id (delOps (nm T.e i))).e := by
  have hm := List.mem_of_getElem? hi
  have hil := seen_lt h.good.down hm
  have he := delete_tree h hil hw
  have h1 := h.add hw
  have hb : byteAt (goneE T.e i) = byteAt T.e := funext fun j => gone_byte
  refine ⟨?_, ?_, ?_, fun id' => ?_⟩
  · rw [he, textE, hb, gone_seen, filter_ne_at h.good.seen_nodup hi, textE, List.map_append, List.map_take, List.map_drop]
  · rw [he, placeE, List.findIdx?_eq_none_iff]
    intro j hj
    rw [gone_seen, List.mem_filter] at hj
    have hjl := seen_lt h.good.down hj.1
    obtain ⟨x, hx⟩ : ∃ x, T.e[i]? = some x := ⟨_, List.getElem?_eq_getElem hil⟩
    obtain ⟨y, hy⟩ : ∃ y, T.e[j]? = some y := ⟨_, List.getElem?_eq_getElem hjl⟩
    have hji : j ≠ i := by simpa using hj.2
    rw [gone_nm]
    refine decide_eq_false fun hn => hji ?_
    rw [nm_at hx, nm_at hy] at hn
    exact h.good.inj hy hx hn
  · obtain ⟨x, hx⟩ : ∃ x, T.e[i]? = some x := ⟨_, List.getElem?_eq_getElem hil⟩
    obtain ⟨A, hA, hp⟩ := h.keepAt h1 (fun c hc => by simp [hc]) (h.good.find hx)
    rw [← nm_at hx] at hA
    rw [hasE, hA]
    exact decide_eq_true (hp (h.good.seen_pos hm))
  · by_cases hw' : wrongC (addT T id (delOps (nm T.e i))) id' (delOps (nm T.e i)) = 0
    · have hnm : nm T.e i = nm (addT T id (delOps (nm T.e i))).e i := by rw [he, gone_nm]
      have hw2 := hw'
      rw [hnm] at hw2
      have h2 := delete_tree h1 (i := i) (by rw [he, gone_length]; exact hil) (id := id') (by rw [← hnm]; exact hw')
      rw [← hnm] at h2
      rw [h2, he]
      have hs : seenE (goneE (goneE T.e i) i) = seenE (goneE T.e i) := by
        rw [gone_seen (e := goneE T.e i), gone_seen, List.filter_filter]
        exact List.filter_congr fun j _ => by simp
      exact ⟨hs, by rw [textE, hs, textE]; exact List.map_congr_left fun j _ => gone_byte⟩
    · have : addT (addT T id (delOps (nm T.e i))) id' (delOps (nm T.e i)) = addT T id (delOps (nm T.e i)) := by rw [addT, if_neg hw']
      rw [this]; exact ⟨rfl, rfl⟩
/-! ## What stays -/
theorem addN_old {id : Dig} {ops : List OpD} {e : List El} : ∀ {k : Nat} {i : Nat} {x : El}, e[i]? = some x → ∃ y, (addN id ops e k)[i]? = some y ∧ y.name = x.name ∧ y.byte = x.byte ∧ (x.gone = true → y.gone = true)
  | 0, i, x, hx => ⟨x, hx, rfl, rfl, fun h => h⟩
  | k + 1, i, x, hx => by
    obtain ⟨y, hy, h1, h2, h3⟩ := addN_old (id := id) (ops := ops) (k := k) hx
    rw [addN]
    cases ho : ops[k]? with
    | none => exact ⟨y, hy, h1, h2, h3⟩
    | some o =>
      simp only
      unfold stepE
      cases ha : atE (addN id ops e k) (res id o.at_) with
      | none => exact ⟨y, hy, h1, h2, h3⟩
      | some a =>
        simp only
        split
        · refine ⟨if i = a then { y with gone := true } else y, by rw [gone_at, hy]; rfl, ?_⟩
          split
          · exact ⟨h1, h2, fun _ => rfl⟩
          · exact ⟨h1, h2, h3⟩
        · refine ⟨_, grow_old hy, ?_⟩
          split
          · have := more_same y (addN id ops e k) o.left ⟨false, id, (k : Int) + 1⟩
            exact ⟨this.1.trans h1, this.2.1.trans h2, fun h => this.2.2.trans (h3 h)⟩
          · exact ⟨h1, h2, h3⟩
theorem addN_order {id : Dig} {ops : List OpD} {e : List El} {L : Coms} (g : Good e) (hb : Built L e) (hid : id ∉ L.map (·.1)) (hl : ops.length ≤ 2000) (hw : wrongN e ops ops.length = 0) : ∀ k, k ≤ ops.length → (orderE (addN id ops e k)).filter (fun i => decide (i < e.length)) = orderE e
  | 0, _ => List.filter_eq_self.2 fun i hi => decide_eq_true (order_lt g.down hi)
  | k + 1, hk => by
    have ih := addN_order g hb hid hl hw k (by omega)
    obtain ⟨g', hb', hn'⟩ := add_upto g hb hid hl hw k (by omega)
    obtain ⟨x, hx⟩ : ∃ x, ops[k]? = some x := ⟨_, List.getElem?_eq_getElem (by omega)⟩
    obtain ⟨a, ha⟩ := old_name hb hb' hx (wrongN_get hw hx)
    have R := right_op hx (wrongAt_zero (wrongN_get hw hx)).1
    rw [addN_at hx]
    rcases R.kind with ⟨hk1, _⟩ | ⟨hk2, _⟩
    · rw [step_ins ha hk1]
      have := grow_filter (left := x.left) (r := ⟨false, id, (k : Int) + 1⟩) (b := x.byte) g'.down (atE_lt ha) 0 g'.pos
      rw [← ih, orderE, orderE, ← this, List.filter_filter]
      refine List.filter_congr fun i _ => ?_
      by_cases h : i < e.length
      · simp [h]; omega
      · simp [h]
    · rw [step_del ha hk2, orderE, gone_walk]; exact ih
/-- Where a name stands among those shown. -/
structure Keep (T T' : Tr) (id : Dig) (ops : List OpD) : Prop where
  /-- What stays seen keeps its order. -/
  order : (seenE T.e).Pairwise fun i j => i ∈ seenE T'.e → j ∈ seenE T'.e → (seenE T'.e).idxOf i < (seenE T'.e).idxOf j
  old : ∀ i, i < T.e.length → nm T'.e i = nm T.e i
  gone : ∀ i ∈ seenE T.e, i ∈ seenE T'.e ↔ ¬ ∃ x ∈ ops, x.kind = 2 ∧ x.at_ = nm T.e i
  new : ∀ i ∈ seenE T'.e, i ∈ seenE T.e ∨ (nm T'.e i).c = id
theorem keeps {L : Coms} {T : Tr} (h : TreeOk L T) {id : Dig} {ops : List OpD} (hw : wrongC T id ops = 0) : Keep T (addT T id ops) id ops := by
  obtain ⟨i1, i2, i3, i4⟩ := wrongC_zero hw
  have hid : id ∉ L.map (·.1) := by rw [← h.ads]; exact i1
  have h' := h.add hw
  have he : (addT T id ops).e = addN id ops T.e ops.length := by rw [addT, if_pos hw]
  have hord := addN_order h.good h.built hid i2 i4 ops.length (Nat.le_refl _)
  rw [← he] at hord
  have hold : ∀ (i : Nat) (x : El), T.e[i]? = some x → ∃ y : El, (addT T id ops).e[i]? = some y ∧ y.name = x.name ∧ y.byte = x.byte ∧ (x.gone = true → y.gone = true) := fun i x hx => by rw [he]; exact addN_old hx
  generalize addT T id ops = T' at *
  have hnm : ∀ i, i < T.e.length → nm T'.e i = nm T.e i := fun i hi => by
    obtain ⟨x, hx⟩ : ∃ x, T.e[i]? = some x := ⟨_, List.getElem?_eq_getElem hi⟩
    obtain ⟨y, hy, hn, _⟩ := hold i x hx
    rw [nm_at hx, nm_at hy, hn]
  have hsub : (seenE T'.e).filter (fun i => decide (i < T.e.length)) = (seenE T.e).filter fun i => !goneAt T'.e i := by
    rw [seenE, seenE, ← hord, List.filter_filter, List.filter_filter, List.filter_filter]
    refine List.filter_congr fun i _ => ?_
    by_cases hi : i < T.e.length
    · obtain ⟨x, hx⟩ : ∃ x, T.e[i]? = some x := ⟨_, List.getElem?_eq_getElem hi⟩
      obtain ⟨y, hy, _, _, hg⟩ := hold i x hx
      rw [goneAt_at hx, goneAt_at hy]
      cases hxg : x.gone
      · simp [hi]
      · simp [hg hxg]
    · simp [hi]
  refine ⟨?_, hnm, fun i hi => ?_, fun i hi => ?_⟩
  · have hp : (seenE T'.e).Pairwise fun i j => (seenE T'.e).idxOf i < (seenE T'.e).idxOf j := by
      rw [List.pairwise_iff_getElem]
      intro p q hp hq hpq
      rw [h'.good.seen_nodup.idxOf_getElem p hp, h'.good.seen_nodup.idxOf_getElem q hq]; exact hpq
    have hp2 := List.Pairwise.sublist (List.filter_sublist (p := fun i => decide (i < T.e.length))) hp
    rw [hsub, List.pairwise_filter] at hp2
    exact hp2.imp fun {i j} hh hi hj => hh (by rw [seen_gone hi]; rfl) (by rw [seen_gone hj]; rfl)
  · have hil := seen_lt h.good.down hi
    obtain ⟨x, hx⟩ : ∃ x, T.e[i]? = some x := ⟨_, List.getElem?_eq_getElem hil⟩
    obtain ⟨y, hy, hyn, _, _⟩ := hold i x hx
    have hxg : x.gone = false := by have := seen_gone hi; rwa [goneAt_at hx] at this
    have hxz : x.name ≠ RefD.zero := fun hz => by have := h.good.seen_pos hi; have := (h.good.zero hx).1 hz; omega
    have hxd : ¬ DelOf L x.name := fun hd => by have := (h.built.gone x (List.mem_of_getElem? hx)).2 (.inr hd); rw [hxg] at this; cases this
    rw [h'.good.seen_mem hy, nm_at hx, ← Bool.not_eq_true, h'.built.gone y (List.mem_of_getElem? hy), hyn]
    refine not_congr ⟨?_, ?_⟩
    · rintro (hz | ⟨id', ops', k, o, hm, ho, hk, hr⟩)
      · exact absurd hz hxz
      · rcases List.mem_append.1 hm with hm | hm
        · exact absurd ⟨id', ops', k, o, hm, ho, hk, hr⟩ hxd
        · simp at hm
          obtain ⟨rfl, rfl⟩ := hm
          refine ⟨o, List.mem_of_getElem? ho, hk, ?_⟩
          by_cases hown : o.at_.own = true
          · exfalso
            rw [res, if_pos hown] at hr
            rcases (h.built.names x.name).1 ⟨x, List.mem_of_getElem? hx, rfl⟩ with hz | ⟨b, p, s, id2, ops2, k2, o2, hm2, _, _, hr2, _⟩
            · exact hxz hz
            · rw [hr] at hr2
              injection hr2 with _ hh _
              exact hid (by rw [hh]; exact List.mem_map_of_mem hm2)
          · rw [res, if_neg hown] at hr; exact hr.symm
    · rintro ⟨o, ho, hk, hr⟩
      obtain ⟨k, ho⟩ := List.mem_iff_getElem?.1 ho
      refine .inr ⟨id, ops, k, o, by simp, ho, hk, ?_⟩
      rw [res, hr, if_neg (by rw [h.good.ownF hx]; decide)]
  · by_cases hil : i < T.e.length
    · left
      obtain ⟨x, hx⟩ : ∃ x, T.e[i]? = some x := ⟨_, List.getElem?_eq_getElem hil⟩
      obtain ⟨y, hy, _, _, hg⟩ := hold i x hx
      rw [h.good.seen_mem hx]
      have := seen_gone hi
      rw [goneAt_at hy] at this
      cases hxg : x.gone
      · rfl
      · rw [hg hxg] at this; cases this
    · right
      have hil' := seen_lt h'.good.down hi
      obtain ⟨y, hy⟩ : ∃ y, T'.e[i]? = some y := ⟨_, List.getElem?_eq_getElem hil'⟩
      rw [nm_at hy]
      have hp := h.good.pos
      rcases (h'.built.names y.name).1 ⟨y, List.mem_of_getElem? hy, rfl⟩ with hz | ⟨b, p, s, id', ops', k, o, hm, ho, hk, hr, hh⟩
      · have := (h'.good.zero hy).1 hz; omega
      · rcases List.mem_append.1 hm with hm | hm
        · exfalso
          obtain ⟨x, hx, hxn⟩ := (h.built.names y.name).2 (.inr ⟨b, p, s, id', ops', k, o, hm, ho, hk, hr, hh⟩)
          obtain ⟨j, hx⟩ := List.mem_iff_getElem?.1 hx
          obtain ⟨y', hy', hn', _⟩ := hold j x hx
          have := h'.good.inj hy' hy (hn'.trans hxn)
          have := (List.getElem?_eq_some_iff.1 hx).1
          omega
        · simp at hm
          rw [hr, hm.1]
end Go.Fu
